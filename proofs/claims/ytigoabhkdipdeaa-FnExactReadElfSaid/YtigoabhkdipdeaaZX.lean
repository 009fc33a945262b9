/- A part of the plain reading of Go's code: what a function's code comes to, by a plain function. No condition. -/
import Derived.Test.YtigoabhkdipdeaaZU
import Derived.Test.YtigoabhkdipdeaaZBL
import Derived.Lib.SliceRun
import Derived.Tactics
import Derived.Shelf.Strings.Repeat
namespace Go.Proofs.Ytigoabhkdipdeaa
open Go Go.Proofs.Ytigoabhkdipdeaa.AM
set_option maxRecDepth 100000
set_option linter.all false
noncomputable def x230 (n : Nat) (a0 : List S_Page) : Option (List S_Page) := bif decide ((0 + a0.length) * 32 ≤ 140737488355328) then some a0 else none
noncomputable def c_x230 : Con UU.El := ⟨[.c (.row 153)], [.c (.sl 153)], fun n x => x230 n x.1⟩
abbrev G230 : Cfg := ⟨UU, tiT.look, [5], 8, [], []⟩
def e230 (l : List S_Page) (b : Bool) (t : Nat) : V UU.El := match t with
  | 0 => .w (.c (.row 153 l false false))
  | 2 => .w (.c (.sc (.slice none 0 0)))
  | 4 => .w (.c (.sc (.bool b)))
  | _ => .un
noncomputable def C230 : Code := match Try.f230.body with | some (.seq _ (.seq (.seq _ C) _)) => C | _ => .skip
noncomputable def Y230 : Code := match Try.f230.body with | some (.seq _ (.seq _ Y)) => Y | _ => .skip
noncomputable abbrev K230 := kEnd G230 Try.f230 [.c (.row 153)] [.c (.sl 153)]
noncomputable abbrev J230 : Kt UU (AM.Os UU.El ([.c (.sl 153)] ++ bkSs [.c (.row 153)])) := fun n e σ => match e with
  | .normal => aev G230 (fun _ => lk []) (lk []) Y230 0 n σ K230
  | .ret => K230 n .ret σ
  | .exit i => K230 n (.exit i) σ
theorem loopsY : loopsOk G230 (fun _ => lk []) (lk []) Y230 0 K230 := loopsOk_of Y230 0 _ (by
  intro s hs
  have : sides G230 (fun _ => lk []) (lk []) Y230 0 K230 = [] := by kernel_rfl
  rw [this] at hs
  cases hs)
theorem loopsC : loopsOk G230 (fun _ => lk []) (lk []) C230 0 J230 := loopsOk_of C230 0 _ (by
  intro s hs
  have : sides G230 (fun _ => lk []) (lk []) C230 0 J230 = [] := by kernel_rfl
  rw [this] at hs
  cases hs)
theorem ev_t (n : Nat) (l : List S_Page) : aev G230 (fun _ => lk []) (lk []) C230 0 n ⟨e230 l true, []⟩ J230 = some [] := by kernel_rfl
theorem ev_f (n : Nat) (l : List S_Page) : aev G230 (fun _ => lk []) (lk []) C230 0 n ⟨e230 l false, []⟩ J230 = x230 n l := by kernel_rfl
theorem k_x230 : ConOk Try.prog UU 230 c_x230 := by
  refine ⟨⟨_, Try.func230, by kernel_rfl, by kernel_rfl⟩, fun n x y hy D S ι vs w hS hSD hv hM => ?_⟩
  obtain ⟨v, r, rfl, hv1, rfl⟩ := hv
  obtain ⟨A, cap, rfl, hc⟩ := hv1
  obtain ⟨l, ⟨⟩⟩ := x
  let F : Frm := ⟨w, D, S, [], fun i => ([Value.slice A l.length cap] : List Value).getD i undef, hS, hSD⟩
  refine calls_of_wp Try.func230 (show Try.f230.body = some _ from rfl) ?_
  have q_ : ∀ (w : World) (a : Option Addr) (n c n' c' : Nat), (binOp .eql 43 (.slice a n c) (.slice none n' c')).run Try.prog w = .ok (.bool a.isNone) w := fun w a n c n' c' => Go.Lib.run_eql_slice_nil w _ _ a n c n' c' Try.underlying43
  have hs : SR UU 8 F ⟨e230 l A.isNone, []⟩ { tmps := #[.slice A l.length cap, undef, .slice none 0 0, .slice A l.length cap, .bool A.isNone, undef, undef, undef], defers := [] } w := by
    refine ⟨ι, fun t => ?_, rfl, rfl, hM, Fr.refl _ _, fun i hi => by cases hi⟩
    match t with
    | 0 => exact ⟨A, cap, rfl, hc⟩
    | 2 => exact ⟨rfl, rfl⟩
    | 4 => exact ⟨rfl, rfl⟩
    | 1 | 3 | _ + 5 => trivial
  have hnil : A.isNone = true → l = [] := by
    intro h
    cases l with
    | nil => rfl
    | cons z zs =>
      obtain ⟨b, o, h1, _⟩ := hc.2.1 0 (.int .i64 z.f0) rfl
      rw [h1] at h
      cases h
  have fin : ∀ {n σ a w' e}, kEnd G230 Try.f230 [.c (.row 153)] [.c (.sl 153)] n e σ = some y → SR UU 8 F σ a w' → _ := fun {n σ a w' e} h1 h2 => end_ok (cargs := [.slice A l.length cap]) (G := G230) fits h2 rfl rfl rfl (by decide) h1
  refine wp_seq (wp_region_list (wpList_plain rfl fun K hK => ?_))
  refine hK (Act.put ⟨#[.slice A l.length cap] ++ Array.replicate 7 undef, []⟩ (some 2) (.slice none 0 0)) w ?_
  refine wpList_nil ?_
  show Code.wp _ _ _ _ _
  refine wp_seq (wp_seq (wp_region_list (wpList_plain rfl fun K hK => ?_)))
  refine hK (Act.put (Act.put ⟨#[.slice A l.length cap] ++ Array.replicate 7 undef, []⟩ (some 2) (.slice none 0 0)) (some 3) (.slice A l.length cap)) w ?_
  clear hK K
  refine wpList_plain rfl fun K hK => ?_
  have h4 := q_ w A l.length cap 0 0
  simp only [Oper.wp]
  have hrun : ∀ (g : Operand → Value) (o : Oper), o.op = Op.binOp BinOp.eql 43 (Operand.tmp 3) (Operand.const (Value.slice none 0 0)) 43 → g (.tmp 3) = .slice A l.length cap → g (.const (.slice none 0 0)) = .slice none 0 0 → Sem.run Try.prog (execOp g o) w = .ok (.value (.bool A.isNone)) w := by
    intro g o ho h1 h2
    simp only [execOp, ho, h1, h2, Sem.run_bind]
    have : Sem.run Try.prog (eqGuard .eql 43 (.tmp 3) (.const (.slice none 0 0)) (.slice A l.length cap) (.slice none 0 0)) w = .ok () w := rfl
    rw [this]
    show (Sem.run Try.prog (binOp .eql 43 (.slice A l.length cap) (.slice none 0 0)) w).andThen _ = _
    rw [h4]
    rfl
  rw [hrun _ _ rfl rfl rfl]
  show K _ w
  refine hK _ _ (wpList_nil ?_)
  clear hK
  show Code.wp _ _ _ _ _
  have done : ∀ (n' : Nat), n' ≤ n → ∀ e σ a w', kEnd G230 Try.f230 [.c (.row 153)] [.c (.sl 153)] n' e σ = some y → SR UU 8 F σ a w' → bodyPost Try.prog Try.f230 (fun e w' => ∃ u, e = Ending.returned u ∧ Ended UU D S c_x230.ins c_x230.outs y w w' [Value.slice A (List.length l) cap] u) (exOf e) a w' := by
    intro n' _ e σ a w' h1 h2
    obtain ⟨h3, h4, v, h5, h6⟩ := fin h1 h2
    cases e with
    | exit i => exact absurd rfl (h3 i)
    | normal => exact ⟨h4, v, h5, v, rfl, h6⟩
    | ret => exact ⟨h4, v, h5, v, rfl, h6⟩
  have hy' : x230 n l = some y := hy
  have hev : aev G230 (fun _ => lk []) (lk []) C230 0 n ⟨e230 l A.isNone, []⟩ J230 = some y := by
    cases hA : A.isNone with
    | false => exact (ev_f n l).trans hy'
    | true =>
      refine (ev_t n l).trans ?_
      rw [← hy', hnil hA]
      rfl
  refine aev_ok (G := G230) (w0 := F) fits (con := fun _ => lk []) (fun _ => consOk (l := []) trivial) rfl C230 0 n _ J230 _ _ w loopsC hev hs ?_
  intro n' hn' e σ a w' h1 h2
  cases e with
  | normal => exact aev_ok (G := G230) (w0 := F) fits (con := fun _ => lk []) (fun _ => consOk (l := []) trivial) rfl Y230 0 n' _ K230 _ _ w' loopsY h1 h2 fun n'' h'' => done n'' (Nat.le_trans h'' hn')
  | ret => exact done n' hn' .ret σ a w' h1 h2
  | exit i => exact done n' hn' (.exit i) σ a w' h1 h2
def Try.lays105_ren : Go.Shelf.Ren := ⟨fun | 105 => 196 | 212 => 242 | 99 => 243 | 165 => 244 | 166 => 245 | 170 => 246 | 169 => 247 | 263 => 261 | 264 => 253 | 206 => 262 | 240 => 263 | 241 => 264 | 276 => 268 | 277 => 269 | n => n, fun | 9 => 9 | 3 => 3 | 4 => 4 | 20 => 20 | 0 => 0 | 46 => 101 | 109 => 203 | 5 => 5 | 72 => 208 | 76 => 212 | 51 => 220 | 146 => 221 | 53 => 144 | 148 => 187 | 70 => 206 | 37 => 87 | 75 => 211 | 127 => 223 | 164 => 226 | 80 => 172 | n => n, fun | n => n⟩
theorem Try.lays105 : Go.Proofs.Lays.n105 Try.prog Try.lays105_ren := {
  mixed := by kernel_rfl
  f99 := Try.func243.trans (congrArg some (by kernel_rfl))
  f105 := Try.func196.trans (congrArg some (by kernel_rfl))
  f165 := Try.func244.trans (congrArg some (by kernel_rfl))
  f166 := Try.func245.trans (congrArg some (by kernel_rfl))
  f169 := Try.func247.trans (congrArg some (by kernel_rfl))
  f170 := Try.func246.trans (congrArg some (by kernel_rfl))
  f206 := Try.func262.trans (congrArg some (by kernel_rfl))
  f212 := Try.func242.trans (congrArg some (by kernel_rfl))
  f240 := Try.func263.trans (congrArg some (by kernel_rfl))
  f241 := Try.func264.trans (congrArg some (by kernel_rfl))
  f263 := Try.func261.trans (congrArg some (by kernel_rfl))
  f264 := Try.func253.trans (congrArg some (by kernel_rfl))
  f276 := Try.func268.trans (congrArg some (by kernel_rfl))
  f277 := Try.func269.trans (congrArg some (by kernel_rfl))
  t0 := Try.underlying0
  a0 := Try.isAgg0
  z0 := Try.sizeOf0
  v0 := Try.zeroValue0
  t3 := Try.underlying3
  a3 := Try.isAgg3
  z3 := Try.sizeOf3
  v3 := Try.zeroValue3
  t4 := Try.underlying4
  a4 := Try.isAgg4
  z4 := Try.sizeOf4
  v4 := Try.zeroValue4
  t5 := Try.underlying5
  a5 := Try.isAgg5
  z5 := Try.sizeOf5
  v5 := Try.zeroValue5
  t9 := Try.underlying9
  a9 := Try.isAgg9
  z9 := Try.sizeOf9
  v9 := Try.zeroValue9
  t20 := Try.underlying20
  a20 := Try.isAgg20
  z20 := Try.sizeOf20
  v20 := Try.zeroValue20
  t37 := Try.underlying87
  a37 := Try.isAgg87
  z37 := Try.sizeOf87
  v37 := Try.zeroValue87
  t46 := Try.underlying101
  a46 := Try.isAgg101
  z46 := Try.sizeOf101
  v46 := Try.zeroValue101
  t51 := Try.underlying220
  a51 := Try.isAgg220
  z51 := Try.sizeOf220
  v51 := Try.zeroValue220
  t53 := Try.underlying144
  a53 := Try.isAgg144
  z53 := Try.sizeOf144
  v53 := Try.zeroValue144
  t70 := Try.underlying206
  a70 := Try.isAgg206
  z70 := Try.sizeOf206
  v70 := Try.zeroValue206
  t72 := Try.underlying208
  a72 := Try.isAgg208
  z72 := Try.sizeOf208
  v72 := Try.zeroValue208
  t75 := Try.underlying211
  a75 := Try.isAgg211
  z75 := Try.sizeOf211
  v75 := Try.zeroValue211
  t76 := Try.underlying212
  a76 := Try.isAgg212
  z76 := Try.sizeOf212
  v76 := Try.zeroValue212
  t109 := Try.underlying203
  a109 := Try.isAgg203
  z109 := Try.sizeOf203
  v109 := Try.zeroValue203
  t127 := Try.underlying223
  a127 := Try.isAgg223
  z127 := Try.sizeOf223
  v127 := Try.zeroValue223
  t146 := Try.underlying221
  a146 := Try.isAgg221
  z146 := Try.sizeOf221
  v146 := Try.zeroValue221
  t148 := Try.underlying187
  a148 := Try.isAgg187
  z148 := Try.sizeOf187
  v148 := Try.zeroValue187
  t164 := Try.underlying226
  a164 := Try.isAgg226
  z164 := Try.sizeOf226
  v164 := Try.zeroValue226 }
theorem Try.Builder_Extra_105 : Builder.Extra Try.prog Try.lays105_ren := {
  sizeBuilder := by kernel_rfl
  liesBuilder := by kernel_rfl
  t5 := Try.underlying5
  a5 := Try.isAgg5
  z5 := Try.sizeOf5
  v5 := Try.zeroValue5
  infoByte := by kernel_rfl
  cellsByte := by kernel_rfl
  sizeByte := by kernel_rfl
  neB5 := by decide }
noncomputable def x196 (n : Nat) (a0 : ByteArray) (a1 : Int) : Option ByteArray :=
  bif decide ((0 : Int) ≤ a1) && decide (a1 ≤ 9223372036854775807) && decide (a0.size * a1.toNat ≤ 140737488355328) then some ⟨(Go.Lib.repeatL a0.data.toList a1.toNat).toArray⟩ else none
noncomputable def c_x196 : Con UU.El := ⟨[.c .str, .c (.int .i64)], [.c .str], fun n x => x196 n x.1 x.2.1⟩
theorem k_x196 : ConOk Try.prog UU 196 c_x196 := by
  refine ⟨⟨_, Try.func196, by kernel_rfl, by kernel_rfl⟩, fun n x y hy D S ι vs w hS hSD hv hM => ?_⟩
  obtain ⟨v, r, rfl, ⟨rfl, _⟩, v2, r2, rfl, ⟨rfl, _⟩, rfl⟩ := hv
  obtain ⟨s, k, ⟨⟩⟩ := x
  change ByteArray at s
  change Int at k
  have hy' : x196 n s k = some y := hy
  unfold x196 at hy'
  cases hc : decide ((0 : Int) ≤ k) && decide (k ≤ 9223372036854775807) && decide (s.size * k.toNat ≤ 140737488355328) with
  | false => rw [hc] at hy'; cases hy'
  | true =>
    rw [hc] at hy'
    simp only [Bool.and_eq_true, decide_eq_true_eq] at hc
    obtain ⟨⟨h0, h1⟩, h2⟩ := hc
    have hk : k = ((k.toNat : Nat) : Int) := by omega
    have hyy : y = (⟨(Go.Lib.repeatL s.data.toList k.toNat).toArray⟩ : ByteArray) := (Option.some.inj hy').symm
    have h := Any.strings_Repeat Try.lays105 Try.Builder_Extra_105 s k.toNat w (by omega) h2
    rw [← hk] at h
    refine h.mono fun e w' he => ?_
    obtain ⟨rfl, hB⟩ := he
    refine ⟨_, rfl, ⟨hB.os, hB.tape, hB.output, hB.size, fun j hj hn => hB.block j hj⟩, ι, ?_, ?_, fun j v hj => by have hj' : ([] : List Value)[j]? = some v := hj; simp at hj'⟩
    · rw [hyy]
      exact ⟨rfl, rfl⟩
    · exact ⟨fun id b h => by have h' : ([] : List (Blk UU.El))[id]? = some b := h; simp at h', fun i j b b' k h => by have h' : ([] : List (Blk UU.El))[i]? = some b := h; simp at h', fun id b k h => by have h' : ([] : List (Blk UU.El))[id]? = some b := h; simp at h'⟩
/-! function 168: loop.example/g00664/impl.copyMemory -/
noncomputable def x168 (n : Nat) (a0 : (List S_Page × Unit)) : Option ((List S_Page × Unit)) :=
  (x230 n (a0.1)).bind fun t0 => (some ((t0, ())))
noncomputable def c_x168 : Con UU.El := ⟨[.agg [.row 153]], [.agg [.sl 153]], fun n x => x168 n x.1⟩
noncomputable def L_x168 : Nat → Option (LoopC UU.El (AM.Os UU.El ([.agg [.sl 153]] ++ bkSs [.agg [.row 153]]))) := lk []
theorem k_x168 : ConOk Try.prog UU 168 c_x168 :=
  fun_ok (cs := [(230, c_x230)]) (own := [5]) (N := 7) (ios := []) (pins := []) fits ⟨k_x230, trivial⟩ Try.func168 (L := L_x168) (by kernel_rfl) (by kernel_rfl) (by kernel_rfl)

noncomputable def x108 (n : Nat) (a0 : (List S_Page × Int × Int × Int × Int × List Int × List Int × List Int × Int × Unit)) (a1 : ByteArray) (a2 : Int) : Option ((List Int × Int × Int × List S_Page × Int × Int × ByteArray × Int × ByteArray × Int × Int × Int × Int × Int × Int × Unit)) :=
  (x168 n (a0.1, ())).bind fun t0 => some (([0, 0, 0, 0, 20480, 20480, 0, 0, 0, 0, 0, 0, 0, 0, 0, 16384] : List Int), a0.2.1, (0 : Int), t0.1, a0.2.2.1, a0.2.2.1, a1, (0 : Int), (⟨#[]⟩ : ByteArray), (0 : Int), a2, (1 : Int), (0 : Int), (0 : Int), (0 : Int), ())
noncomputable def c_x108 : Con UU.El := ⟨[.agg [.row 153, .int .i64, .int .i64, .int .i64, .int .i64, .row 3, .row 3, .row 3, .int .i64], .c (.str), .c (.int .i64)], [.agg [.arr 3 16, .int .i64, .int .i64, .sl 153, .int .i64, .int .i64, .str, .int .i64, .str, .int .i64, .int .i64, .int .i64, .int .i64, .int .i64, .int .i64]], fun n x => x108 n x.1 x.2.1 x.2.2.1⟩
noncomputable def R108 : Code := match Try.f108.body with | some (.seq R _) => R | _ => .skip
noncomputable def O108 : Array Oper := match Try.f108.body with | some (.seq _ (.seq (.region _ ops _) _)) => ops | _ => #[]
noncomputable def E108 : Code := match Try.f108.body with | some (.seq _ (.seq _ R)) => R | _ => .skip
theorem k_x108 : ConOk Try.prog UU 108 c_x108 :=
  fun2_ok (cs := [(168, c_x168)]) (own := [10]) (N := 32) (ios := []) (pins := []) fits ⟨k_x168, trivial⟩ Try.func108 (by kernel_rfl) (R0 := R108) (id := 1) (ops := O108) (rest := E108) rfl 2 10 [0, 1, 3, 4, 5, 6, 7, 8, 2, 9, 10, 11] [0, 1, 3, 4, 5, 6, 7, 8, 10, 2, 9, 11] (by kernel_rfl) (by kernel_rfl) (by kernel_rfl) (by kernel_rfl) (by kernel_rfl) (by kernel_rfl)
end Go.Proofs.Ytigoabhkdipdeaa
