/- A part of the plain reading of Go's code: what a function's code comes to, by a plain function. No condition. -/
import Derived.Test.YtigoabhkdipdeaaZU
import Derived.Test.YtigoabhkdipdeaaZA2
import Derived.Lib.SliceRun
import Derived.Tactics
import Derived.Shelf.Strings.Repeat
namespace Go.Proofs.Ytigoabhkdipdeaa
open Go Go.Proofs.Ytigoabhkdipdeaa.AM
set_option maxRecDepth 100000
set_option linter.all false
noncomputable def x230 (n : Nat) (a0 : List S_Page) : Option (List S_Page) := bif decide ((0 + a0.length) * 32 ≤ 140737488355328) then some a0 else none
noncomputable def c_x230 : Con UU.El := ⟨[.c (.row 153)], [.c (.sl 153)], fun n x => x230 n x.1⟩
abbrev G230 : Cfg := ⟨UU, tiT.look, [5], 8, [], []⟩
def e230 (l : List S_Page) (b : Bool) (t : Nat) : V UU.El := match t with
  | 0 => .w (.c (.row 153 l false false))
  | 2 => .w (.c (.sc (.slice none 0 0)))
  | 4 => .w (.c (.sc (.bool b)))
  | _ => .un
noncomputable def C230 : Code := match Try.f230.body with | some (.seq _ (.seq (.seq _ C) _)) => C | _ => .skip
noncomputable def Y230 : Code := match Try.f230.body with | some (.seq _ (.seq _ Y)) => Y | _ => .skip
noncomputable abbrev K230 := kEnd G230 Try.f230 [.c (.row 153)] [.c (.sl 153)]
noncomputable abbrev J230 : Kt UU (AM.Os UU.El ([.c (.sl 153)] ++ bkSs [.c (.row 153)])) := fun n e σ => match e with
  | .normal => aev G230 (fun _ => lk []) (lk []) Y230 0 n σ K230
  | .ret => K230 n .ret σ
  | .exit i => K230 n (.exit i) σ
theorem loopsY : loopsOk G230 (fun _ => lk []) (lk []) Y230 0 K230 := loopsOk_of Y230 0 _ (by
  intro s hs
  have : sides G230 (fun _ => lk []) (lk []) Y230 0 K230 = [] := by kernel_rfl
  rw [this] at hs
  cases hs)
theorem loopsC : loopsOk G230 (fun _ => lk []) (lk []) C230 0 J230 := loopsOk_of C230 0 _ (by
  intro s hs
  have : sides G230 (fun _ => lk []) (lk []) C230 0 J230 = [] := by kernel_rfl
  rw [this] at hs
  cases hs)
theorem ev_t (n : Nat) (l : List S_Page) : aev G230 (fun _ => lk []) (lk []) C230 0 n ⟨e230 l true, []⟩ J230 = some [] := by kernel_rfl
theorem ev_f (n : Nat) (l : List S_Page) : aev G230 (fun _ => lk []) (lk []) C230 0 n ⟨e230 l false, []⟩ J230 = x230 n l := by kernel_rfl
theorem k_x230 : ConOk Try.prog UU 230 c_x230 := by
  refine ⟨⟨_, Try.func230, by kernel_rfl, by kernel_rfl⟩, fun n x y hy D S ι vs w hS hSD hv hM => ?_⟩
  obtain ⟨v, r, rfl, hv1, rfl⟩ := hv
  obtain ⟨A, cap, rfl, hc⟩ := hv1
  obtain ⟨l, ⟨⟩⟩ := x
  let F : Frm := ⟨w, D, S, [], fun i => ([Value.slice A l.length cap] : List Value).getD i undef, hS, hSD⟩
  refine calls_of_wp Try.func230 (show Try.f230.body = some _ from rfl) ?_
  have q_ : ∀ (w : World) (a : Option Addr) (n c n' c' : Nat), (binOp .eql 43 (.slice a n c) (.slice none n' c')).run Try.prog w = .ok (.bool a.isNone) w := fun w a n c n' c' => Go.Lib.run_eql_slice_nil w _ _ a n c n' c' Try.underlying43
  have hs : SR UU 8 F ⟨e230 l A.isNone, []⟩ { tmps := #[.slice A l.length cap, undef, .slice none 0 0, .slice A l.length cap, .bool A.isNone, undef, undef, undef], defers := [] } w := by
    refine ⟨ι, fun t => ?_, rfl, rfl, hM, Fr.refl _ _, fun i hi => by cases hi⟩
    match t with
    | 0 => exact ⟨A, cap, rfl, hc⟩
    | 2 => exact ⟨rfl, rfl⟩
    | 4 => exact ⟨rfl, rfl⟩
    | 1 | 3 | _ + 5 => trivial
  have hnil : A.isNone = true → l = [] := by
    intro h
    cases l with
    | nil => rfl
    | cons z zs =>
      obtain ⟨b, o, h1, _⟩ := hc.2.1 0 (.int .i64 z.f0) rfl
      rw [h1] at h
      cases h
  have fin : ∀ {n σ a w' e}, kEnd G230 Try.f230 [.c (.row 153)] [.c (.sl 153)] n e σ = some y → SR UU 8 F σ a w' → _ := fun {n σ a w' e} h1 h2 => end_ok (cargs := [.slice A l.length cap]) (G := G230) fits h2 rfl rfl rfl (by decide) h1
  refine wp_seq (wp_region_list (wpList_plain rfl fun K hK => ?_))
  refine hK (Act.put ⟨#[.slice A l.length cap] ++ Array.replicate 7 undef, []⟩ (some 2) (.slice none 0 0)) w ?_
  refine wpList_nil ?_
  show Code.wp _ _ _ _ _
  refine wp_seq (wp_seq (wp_region_list (wpList_plain rfl fun K hK => ?_)))
  refine hK (Act.put (Act.put ⟨#[.slice A l.length cap] ++ Array.replicate 7 undef, []⟩ (some 2) (.slice none 0 0)) (some 3) (.slice A l.length cap)) w ?_
  clear hK K
  refine wpList_plain rfl fun K hK => ?_
  have h4 := q_ w A l.length cap 0 0
  simp only [Oper.wp]
  have hrun : ∀ (g : Operand → Value) (o : Oper), o.op = Op.binOp BinOp.eql 43 (Operand.tmp 3) (Operand.const (Value.slice none 0 0)) 43 → g (.tmp 3) = .slice A l.length cap → g (.const (.slice none 0 0)) = .slice none 0 0 → Sem.run Try.prog (execOp g o) w = .ok (.value (.bool A.isNone)) w := by
    intro g o ho h1 h2
    simp only [execOp, ho, h1, h2, Sem.run_bind]
    have : Sem.run Try.prog (eqGuard .eql 43 (.tmp 3) (.const (.slice none 0 0)) (.slice A l.length cap) (.slice none 0 0)) w = .ok () w := rfl
    rw [this]
    show (Sem.run Try.prog (binOp .eql 43 (.slice A l.length cap) (.slice none 0 0)) w).andThen _ = _
    rw [h4]
    rfl
  rw [hrun _ _ rfl rfl rfl]
  show K _ w
  refine hK _ _ (wpList_nil ?_)
  clear hK
  show Code.wp _ _ _ _ _
  have done : ∀ (n' : Nat), n' ≤ n → ∀ e σ a w', kEnd G230 Try.f230 [.c (.row 153)] [.c (.sl 153)] n' e σ = some y → SR UU 8 F σ a w' → bodyPost Try.prog Try.f230 (fun e w' => ∃ u, e = Ending.returned u ∧ Ended UU D S c_x230.ins c_x230.outs y w w' [Value.slice A (List.length l) cap] u) (exOf e) a w' := by
    intro n' _ e σ a w' h1 h2
    obtain ⟨h3, h4, v, h5, h6⟩ := fin h1 h2
    cases e with
    | exit i => exact absurd rfl (h3 i)
    | normal => exact ⟨h4, v, h5, v, rfl, h6⟩
    | ret => exact ⟨h4, v, h5, v, rfl, h6⟩
  have hy' : x230 n l = some y := hy
  have hev : aev G230 (fun _ => lk []) (lk []) C230 0 n ⟨e230 l A.isNone, []⟩ J230 = some y := by
    cases hA : A.isNone with
    | false => exact (ev_f n l).trans hy'
    | true =>
      refine (ev_t n l).trans ?_
      rw [← hy', hnil hA]
      rfl
  refine aev_ok (G := G230) (w0 := F) fits (con := fun _ => lk []) (fun _ => consOk (l := []) trivial) rfl C230 0 n _ J230 _ _ w loopsC hev hs ?_
  intro n' hn' e σ a w' h1 h2
  cases e with
  | normal => exact aev_ok (G := G230) (w0 := F) fits (con := fun _ => lk []) (fun _ => consOk (l := []) trivial) rfl Y230 0 n' _ K230 _ _ w' loopsY h1 h2 fun n'' h'' => done n'' (Nat.le_trans h'' hn')
  | ret => exact done n' hn' .ret σ a w' h1 h2
  | exit i => exact done n' hn' (.exit i) σ a w' h1 h2
def Try.lays105_ren : Go.Shelf.Ren := ⟨fun | 105 => 196 | 212 => 242 | 99 => 243 | 165 => 244 | 166 => 245 | 170 => 246 | 169 => 247 | 263 => 261 | 264 => 253 | 206 => 262 | 240 => 263 | 241 => 264 | 276 => 268 | 277 => 269 | n => n, fun | 9 => 9 | 3 => 3 | 4 => 4 | 20 => 20 | 0 => 0 | 46 => 101 | 109 => 203 | 5 => 5 | 72 => 208 | 76 => 212 | 51 => 220 | 146 => 221 | 53 => 144 | 148 => 187 | 70 => 206 | 37 => 87 | 75 => 211 | 127 => 223 | 164 => 226 | 80 => 172 | n => n, fun | n => n⟩
theorem Try.lays105 : Go.Proofs.Lays.n105 Try.prog Try.lays105_ren := {
  mixed := by kernel_rfl
  f99 := Try.func243.trans (congrArg some (by kernel_rfl))
  f105 := Try.func196.trans (congrArg some (by kernel_rfl))
  f165 := Try.func244.trans (congrArg some (by kernel_rfl))
  f166 := Try.func245.trans (congrArg some (by kernel_rfl))
  f169 := Try.func247.trans (congrArg some (by kernel_rfl))
  f170 := Try.func246.trans (congrArg some (by kernel_rfl))
  f206 := Try.func262.trans (congrArg some (by kernel_rfl))
  f212 := Try.func242.trans (congrArg some (by kernel_rfl))
  f240 := Try.func263.trans (congrArg some (by kernel_rfl))
  f241 := Try.func264.trans (congrArg some (by kernel_rfl))
  f263 := Try.func261.trans (congrArg some (by kernel_rfl))
  f264 := Try.func253.trans (congrArg some (by kernel_rfl))
  f276 := Try.func268.trans (congrArg some (by kernel_rfl))
  f277 := Try.func269.trans (congrArg some (by kernel_rfl))
  t0 := Try.underlying0
  a0 := Try.isAgg0
  z0 := Try.sizeOf0
  v0 := Try.zeroValue0
  t3 := Try.underlying3
  a3 := Try.isAgg3
  z3 := Try.sizeOf3
  v3 := Try.zeroValue3
  t4 := Try.underlying4
  a4 := Try.isAgg4
  z4 := Try.sizeOf4
  v4 := Try.zeroValue4
  t5 := Try.underlying5
  a5 := Try.isAgg5
  z5 := Try.sizeOf5
  v5 := Try.zeroValue5
  t9 := Try.underlying9
  a9 := Try.isAgg9
  z9 := Try.sizeOf9
  v9 := Try.zeroValue9
  t20 := Try.underlying20
  a20 := Try.isAgg20
  z20 := Try.sizeOf20
  v20 := Try.zeroValue20
  t37 := Try.underlying87
  a37 := Try.isAgg87
  z37 := Try.sizeOf87
  v37 := Try.zeroValue87
  t46 := Try.underlying101
  a46 := Try.isAgg101
  z46 := Try.sizeOf101
  v46 := Try.zeroValue101
  t51 := Try.underlying220
  a51 := Try.isAgg220
  z51 := Try.sizeOf220
  v51 := Try.zeroValue220
  t53 := Try.underlying144
  a53 := Try.isAgg144
  z53 := Try.sizeOf144
  v53 := Try.zeroValue144
  t70 := Try.underlying206
  a70 := Try.isAgg206
  z70 := Try.sizeOf206
  v70 := Try.zeroValue206
  t72 := Try.underlying208
  a72 := Try.isAgg208
  z72 := Try.sizeOf208
  v72 := Try.zeroValue208
  t75 := Try.underlying211
  a75 := Try.isAgg211
  z75 := Try.sizeOf211
  v75 := Try.zeroValue211
  t76 := Try.underlying212
  a76 := Try.isAgg212
  z76 := Try.sizeOf212
  v76 := Try.zeroValue212
  t109 := Try.underlying203
  a109 := Try.isAgg203
  z109 := Try.sizeOf203
  v109 := Try.zeroValue203
  t127 := Try.underlying223
  a127 := Try.isAgg223
  z127 := Try.sizeOf223
  v127 := Try.zeroValue223
  t146 := Try.underlying221
  a146 := Try.isAgg221
  z146 := Try.sizeOf221
  v146 := Try.zeroValue221
  t148 := Try.underlying187
  a148 := Try.isAgg187
  z148 := Try.sizeOf187
  v148 := Try.zeroValue187
  t164 := Try.underlying226
  a164 := Try.isAgg226
  z164 := Try.sizeOf226
  v164 := Try.zeroValue226 }
theorem Try.Builder_Extra_105 : Builder.Extra Try.prog Try.lays105_ren := {
  sizeBuilder := by kernel_rfl
  liesBuilder := by kernel_rfl
  t5 := Try.underlying5
  a5 := Try.isAgg5
  z5 := Try.sizeOf5
  v5 := Try.zeroValue5
  infoByte := by kernel_rfl
  cellsByte := by kernel_rfl
  sizeByte := by kernel_rfl
  neB5 := by decide }
noncomputable def x196 (n : Nat) (a0 : ByteArray) (a1 : Int) : Option ByteArray :=
  bif decide ((0 : Int) ≤ a1) && decide (a1 ≤ 9223372036854775807) && decide (a0.size * a1.toNat ≤ 140737488355328) then some ⟨(Go.Lib.repeatL a0.data.toList a1.toNat).toArray⟩ else none
noncomputable def c_x196 : Con UU.El := ⟨[.c .str, .c (.int .i64)], [.c .str], fun n x => x196 n x.1 x.2.1⟩
theorem k_x196 : ConOk Try.prog UU 196 c_x196 := by
  refine ⟨⟨_, Try.func196, by kernel_rfl, by kernel_rfl⟩, fun n x y hy D S ι vs w hS hSD hv hM => ?_⟩
  obtain ⟨v, r, rfl, ⟨rfl, _⟩, v2, r2, rfl, ⟨rfl, _⟩, rfl⟩ := hv
  obtain ⟨s, k, ⟨⟩⟩ := x
  change ByteArray at s
  change Int at k
  have hy' : x196 n s k = some y := hy
  unfold x196 at hy'
  cases hc : decide ((0 : Int) ≤ k) && decide (k ≤ 9223372036854775807) && decide (s.size * k.toNat ≤ 140737488355328) with
  | false => rw [hc] at hy'; cases hy'
  | true =>
    rw [hc] at hy'
    simp only [Bool.and_eq_true, decide_eq_true_eq] at hc
    obtain ⟨⟨h0, h1⟩, h2⟩ := hc
    have hk : k = ((k.toNat : Nat) : Int) := by omega
    have hyy : y = (⟨(Go.Lib.repeatL s.data.toList k.toNat).toArray⟩ : ByteArray) := (Option.some.inj hy').symm
    have h := Any.strings_Repeat Try.lays105 Try.Builder_Extra_105 s k.toNat w (by omega) h2
    rw [← hk] at h
    refine h.mono fun e w' he => ?_
    obtain ⟨rfl, hB⟩ := he
    refine ⟨_, rfl, ⟨hB.os, hB.tape, hB.output, hB.size, fun j hj hn => hB.block j hj⟩, ι, ?_, ?_, fun j v hj => by have hj' : ([] : List Value)[j]? = some v := hj; simp at hj'⟩
    · rw [hyy]
      exact ⟨rfl, rfl⟩
    · exact ⟨fun id b h => by have h' : ([] : List (Blk UU.El))[id]? = some b := h; simp at h', fun i j b b' k h => by have h' : ([] : List (Blk UU.El))[i]? = some b := h; simp at h', fun id b k h => by have h' : ([] : List (Blk UU.El))[id]? = some b := h; simp at h'⟩
/-! function 168: loop.example/g00664/impl.copyMemory -/
noncomputable def x168 (n : Nat) (a0 : (List S_Page × Unit)) : Option ((List S_Page × Unit)) :=
  (x230 n (a0.1)).bind fun t0 => (some ((t0, ())))
noncomputable def c_x168 : Con UU.El := ⟨[.agg [.row 153]], [.agg [.sl 153]], fun n x => x168 n x.1⟩
noncomputable def L_x168 : Nat → Option (LoopC UU.El (AM.Os UU.El ([.agg [.sl 153]] ++ bkSs [.agg [.row 153]]))) := lk []
theorem k_x168 : ConOk Try.prog UU 168 c_x168 :=
  fun_ok (cs := [(230, c_x230)]) (own := [5]) (N := 7) (ios := []) (pins := []) fits ⟨k_x230, trivial⟩ Try.func168 (L := L_x168) (by kernel_rfl) (by kernel_rfl) (by kernel_rfl)

noncomputable def x108 (n : Nat) (a0 : (List S_Page × Int × Int × Int × Int × List Int × List Int × List Int × Int × Unit)) (a1 : ByteArray) (a2 : Int) : Option ((List Int × Int × Int × List S_Page × Int × Int × ByteArray × Int × ByteArray × Int × Int × Int × Int × Int × Int × Unit)) :=
  (x168 n (a0.1, ())).bind fun t0 => some (([0, 0, 0, 0, 20480, 20480, 0, 0, 0, 0, 0, 0, 0, 0, 0, 16384] : List Int), a0.2.1, (0 : Int), t0.1, a0.2.2.1, a0.2.2.1, a1, (0 : Int), (⟨#[]⟩ : ByteArray), (0 : Int), a2, (1 : Int), (0 : Int), (0 : Int), (0 : Int), ())
noncomputable def c_x108 : Con UU.El := ⟨[.agg [.row 153, .int .i64, .int .i64, .int .i64, .int .i64, .row 3, .row 3, .row 3, .int .i64], .c (.str), .c (.int .i64)], [.agg [.arr 3 16, .int .i64, .int .i64, .sl 153, .int .i64, .int .i64, .str, .int .i64, .str, .int .i64, .int .i64, .int .i64, .int .i64, .int .i64, .int .i64]], fun n x => x108 n x.1 x.2.1 x.2.2.1⟩
noncomputable def R108 : Code := match Try.f108.body with | some (.seq R _) => R | _ => .skip
noncomputable def O108 : Array Oper := match Try.f108.body with | some (.seq _ (.seq (.region _ ops _) _)) => ops | _ => #[]
noncomputable def E108 : Code := match Try.f108.body with | some (.seq _ (.seq _ R)) => R | _ => .skip
theorem k_x108 : ConOk Try.prog UU 108 c_x108 :=
  fun2_ok (cs := [(168, c_x168)]) (own := [10]) (N := 32) (ios := []) (pins := []) fits ⟨k_x168, trivial⟩ Try.func108 (by kernel_rfl) (R0 := R108) (id := 1) (ops := O108) (rest := E108) rfl 2 10 [0, 1, 3, 4, 5, 6, 7, 8, 2, 9, 10, 11] [0, 1, 3, 4, 5, 6, 7, 8, 10, 2, 9, 11] (by kernel_rfl) (by kernel_rfl) (by kernel_rfl) (by kernel_rfl) (by kernel_rfl) (by kernel_rfl)
open Go.RowKit
theorem pinfo153 : (Try.prog.info? 153).map (fun i => (i.zero, i.size, i.bytes)) = some (some (.agg #[.int .i64 0, .int .i64 0, .string ⟨#[]⟩]), 3, 32) := by kernel_rfl

set_option maxHeartbeats 4000000 in
theorem ins_room (i n c g vb vc : Nat) (cur curv : Array Value) (w : World) (hg : w.heap[g]? = some (.cells cur 153 (0, 0))) (hc : cur.size = c * 3) (hcm : c ≤ maxLen) (hi : i < n) (hroom : n + 1 ≤ c)
    (hv : w.heap[vb]? = some (.cells curv 153 (0, 0))) (hvs : 3 ≤ curv.size) (hne : vb ≠ g) (h1 : ∀ v ∈ cur.toList.take (n * 3), v.oneCell' = true) (h1v : ∀ v ∈ curv.toList.take 3, v.oneCell' = true) :
    Calls Try.prog 259 #[.slice (some ⟨g, 0, none⟩) n c, .int .i64 i, .slice (some ⟨vb, 0, none⟩) 1 vc] w fun e w' => e = .returned (.slice (some ⟨g, 0, none⟩) (n + 1) c) ∧
      w' = (w.drew.setRow g (ins cur.toList ((i + 1) * 3) ((cur.toList.take (n * 3)).drop (i * 3))).toArray).setRow g (ins (ins cur.toList ((i + 1) * 3) ((cur.toList.take (n * 3)).drop (i * 3))) (i * 3) (curv.toList.take 3)).toArray := by
  obtain ⟨i0, hi0, hzz⟩ := Option.map_eq_some_iff.1 pinfo153
  simp only [Prod.mk.injEq] at hzz
  obtain ⟨hz0, hz1, hz2⟩ := hzz
  have u43 := run_underlying Try.underlying43
  have hsz : (Try.prog.info? 153).map (·.size) = some 3 := by rw [hi0]; simp [hz1]
  have hszr : ∀ w, (Go.sizeOf 153).run Try.prog w = .ok 3 w := fun w => by simp [sizeOf, typeInfo, hi0, hz1]
  have hov : ∀ lb cb, (callFunc 266 #[.slice (some ⟨vb, 0, none⟩) 1 vc, .slice (some ⟨g, (i + 1) * 3, none⟩) lb cb]).run Try.prog w = .ok (.value (.bool false)) w := fun lb cb => by
    rw [run_callFunc_extern Try.func266 (by kernel_rfl) (by kernel_rfl) (by kernel_rfl) (e := Extern.SlicesOverlaps.overlaps #[43, 43] #[4]) (by kernel_rfl),
      Lib.run_overlaps_apart w 43 4 153 Try.underlying43 3 hszr ⟨vb, 0, none⟩ ⟨g, (i + 1) * 3, none⟩ 1 vc lb cb hne 153 153 curv.size cur.size (by simp [World.shape?, hv]) (by simp [World.shape?, hg]) (by omega) (by simp [World.frozen?, hv]) (by simp [World.frozen?, hv])]
    rfl
  have hw1 : IntKind.i64.wrap ((i : Int) + 1) = (i : Int) + 1 := by rw [IntKind.wrap_i64]; unfold maxLen at hcm; omega
  have hb1 : (0 : Int) ≤ (i : Int) + 1 := by omega
  have hz2' : ¬ ((i : Int) = (n : Int)) := by omega
  have hc63 : c ≤ 9223372036854775807 := by unfold maxLen at hcm; omega
  have htn : ((i : Int) + 1).toNat = i + 1 := by omega
  have hlc : cur.toList.length = c * 3 := by simpa using hc
  obtain ⟨cs, hcs⟩ : ∃ cs, cs = (cur.toList.take (n * 3)).drop (i * 3) := ⟨_, rfl⟩
  have hcl : cs.length = (n - i) * 3 := by rw [hcs, List.length_drop, List.length_take, hlc]; omega
  obtain ⟨pv, hpv⟩ : ∃ pv, pv = curv.toList.take 3 := ⟨_, rfl⟩
  have hpl : pv.length = 3 := by rw [hpv, List.length_take]; simp; omega
  obtain ⟨R1, hR1⟩ : ∃ R1, R1 = ins cur.toList ((i + 1) * 3) cs := ⟨_, rfl⟩
  have hR1l : R1.length = c * 3 := by rw [hR1, ins_len (by omega), hlc]
  have hgd : w.drew.heap[g]? = some (.cells cur 153 (0, 0)) := hg
  have hcp1 : ∀ ty dc sc, (Builtin.copy_ #[43, 43] ty #[.slice (some ⟨g, (i + 1) * 3, none⟩) (n - i) dc, .slice (some ⟨g, i * 3, none⟩) (n + 1 - i) sc]).run Try.prog w.drew = .ok (goInt (Nat.min (n + 1 - i) (n - i))) (w.drew.setRow g R1.toArray) := fun ty dc sc => by
    rw [hR1]
    exact run_copy_rowK w.drew 43 43 ty 153 g ((i + 1) * 3) (n - i) dc ⟨g, i * 3, none⟩ (n + 1 - i) sc cur 153 cs 3 Try.underlying43 hsz hgd (by rw [hcl]; simp only [Nat.min_def]; split <;> omega)
      (fun j v hj => by
        rw [Addr.add_lit, cell_of_row w.drew g _ cur 153 (0, 0) hgd]
        have : cs[j]? = (cur.toList.take (n * 3))[i * 3 + j]? := by rw [hcs, List.getElem?_drop]
        rw [this, List.getElem?_take] at hj
        split at hj
        · simpa using hj
        · cases hj) (by rw [hcl]; omega) (fun v hv => h1 v (by rw [hcs] at hv; exact List.mem_of_mem_drop hv))
  have hcp2 : ∀ ty dc, (Builtin.copy_ #[43, 43] ty #[.slice (some ⟨g, i * 3, none⟩) (n + 1 - i) dc, .slice (some ⟨vb, 0, none⟩) 1 vc]).run Try.prog (w.drew.setRow g R1.toArray) = .ok (goInt (Nat.min 1 (n + 1 - i))) ((w.drew.setRow g R1.toArray).setRow g (ins R1 (i * 3) pv).toArray) := fun ty dc => by
    have hh : (w.drew.setRow g R1.toArray).heap[g]? = some (.cells R1.toArray 153 (0, 0)) := setRow_heap w.drew g cur _ 153 (0, 0) hgd
    have hvv : (w.drew.setRow g R1.toArray).heap[vb]? = some (.cells curv 153 (0, 0)) := (setRow_other w.drew g vb _ hne).trans hv
    exact run_copy_rowK _ 43 43 ty 153 g (i * 3) (n + 1 - i) dc ⟨vb, 0, none⟩ 1 vc R1.toArray 153 pv 3 Try.underlying43 hsz hh (by rw [hpl]; simp only [Nat.min_def]; split <;> omega)
      (fun j v hj => by
        rw [Addr.add_lit, cell_of_row _ vb _ curv 153 (0, 0) hvv]
        rw [hpv, List.getElem?_take] at hj
        split at hj
        · simpa using hj
        · cases hj) (by rw [hpl]; simp [hR1l]; omega) (fun v hv => h1v v (by rw [← hpv]; exact hv))
  rw [← hcs, ← hpv, ← hR1]
  have hni : n + 1 - (i + 1) = n - i := by omega
  have mixed : Try.prog.follows Departure.mixedOrders = true := by kernel_rfl
  have hin : i ≤ n := by omega
  have hb2 : ¬ (c = i + 1) := by omega
  have hb3 : (i : Int) ≤ (n : Int) + 1 := by omega
  have hb4 : ¬ (c = i) := by omega
  clear hR1 hcs hpv hR1l hcl hpl hlc hvs h1 h1v
  go_enter Try.func259, Try.ntmps259
  go_wp2_with (simp only [hov])
  go_region_law_o (refine step_copy_run rfl _ _ 43 43 rfl _ _ (by simp [Act.eval, Act.put]) (by simp [Act.eval, Act.put]) (hcp1 _ _ _) ?_)
  go_wp2_with (simp only [hcp2])

  go_ret

  exact ⟨rfl, rfl⟩
set_option maxHeartbeats 4000000 in
theorem ins_grow (i n c g vb vc : Nat) (cur curv : Array Value) (w : World) (hg : w.heap[g]? = some (.cells cur 153 (0, 0))) (hc : cur.size = c * 3) (hcm : c ≤ maxLen) (hi : i < n) (hnc : n ≤ c) (hroom : c < n + 1) (hbig : (n + 1) * 32 ≤ 140737488355328)
    (hv : w.heap[vb]? = some (.cells curv 153 (0, 0))) (hvs : 3 ≤ curv.size) (h1 : ∀ v ∈ cur.toList.take (n * 3), v.oneCell' = true) (h1v : ∀ v ∈ curv.toList.take 3, v.oneCell' = true) :
    Calls Try.prog 259 #[.slice (some ⟨g, 0, none⟩) n c, .int .i64 i, .slice (some ⟨vb, 0, none⟩) 1 vc] w fun e w' => ∃ G R, e = .returned (.slice (some ⟨w.heap.size, 0, none⟩) (n + 1) G) ∧ n + 1 ≤ G ∧ G ≤ maxLen ∧ R.size = G * 3 ∧
      R.toList.take ((n + 1) * 3) = cur.toList.take (i * 3) ++ curv.toList.take 3 ++ (cur.toList.take (n * 3)).drop (i * 3) ∧ w'.os = w.os ∧ w'.tape = w.tape ∧ w'.output = w.output ∧ w'.heap.size = w.heap.size + 1 ∧ w'.heap[w.heap.size]? = some (.cells R 153 (0, 0)) ∧ ∀ k, k < w.heap.size → w'.heap[k]? = w.heap[k]? := by
  obtain ⟨i0, hi0, hzz⟩ := Option.map_eq_some_iff.1 pinfo153
  simp only [Prod.mk.injEq] at hzz
  obtain ⟨hz0, hz1, hz2⟩ := hzz
  have u43 := run_underlying Try.underlying43
  have hsz : (Try.prog.info? 153).map (·.size) = some 3 := by rw [hi0]; simp [hz1]
  have hlc : cur.toList.length = c * 3 := by simpa using hc
  have hgw : g < w.heap.size := (Array.getElem?_eq_some_iff.1 hg).1
  have hvw : vb < w.heap.size := (Array.getElem?_eq_some_iff.1 hv).1
  obtain ⟨hd, has⟩ : ∃ hd, hd = cur.toList.take (i * 3) := ⟨_, rfl⟩
  have hal : hd.length = i * 3 := by rw [has, List.length_take, hlc]; omega
  obtain ⟨cs, hcs⟩ : ∃ cs, cs = (cur.toList.take (n * 3)).drop (i * 3) := ⟨_, rfl⟩
  have hcl : cs.length = (n - i) * 3 := by rw [hcs, List.length_drop, List.length_take, hlc]; omega
  obtain ⟨pv, hpv⟩ : ∃ pv, pv = curv.toList.take 3 := ⟨_, rfl⟩
  have hpl : pv.length = 3 := by rw [hpv, List.length_take]; simp; omega
  have hold : (Builtin.firstCells i0.size i (.slice (some ⟨g, 0, none⟩) i c)).run Try.prog w.drew = .ok hd.toArray w.drew := by
    rw [hz1]
    exact run_firstCells_some w.drew 3 i ⟨g, 0, none⟩ i c hd hal (fun j v hj => by
      rw [Addr.add_lit, cell_of_row w.drew g _ cur 153 (0, 0) hg]
      rw [has, List.getElem?_take] at hj
      split at hj
      · simpa using hj
      · cases hj)
  have hkk : (n : Int) + 1 - (i : Int) = ((n + 1 - i : Nat) : Int) := by omega
  have hik : i + (n + 1 - i) = n + 1 := by omega
  obtain ⟨G, hG⟩ : ∃ G, G = grownCap w (n + 1) c 153 := ⟨_, rfl⟩
  obtain ⟨z, hz⟩ : ∃ z : Value, z = .agg #[.int .i64 0, .int .i64 0, .string ⟨#[]⟩] := ⟨_, rfl⟩
  have hzc : z.cells.size = 3 := by rw [hz]; rfl
  obtain ⟨ROW, hROW⟩ : ∃ ROW : Array Value, ROW = hd.toArray ++ Builtin.zeroCells z.cells (n + 1 - i) ++ Builtin.zeroCells z.cells (G - (n + 1)) := ⟨_, rfl⟩
  have hrz : ∀ ty, (Builtin.append_ #[43, 3] ty #[.slice (some ⟨g, 0, none⟩) i c, .int .i64 ((n : Int) + 1 - (i : Int))]).run Try.prog w = .ok (.slice (some ⟨w.heap.size, 0, none⟩) (n + 1) G) (w.drew.alloc (.cells ROW 153)) := fun ty => by
    have h := Lib.run_append_grow_zeros w 43 3 ty 153 i0 z .i64 .i64 Try.underlying43 Try.underlying3 hi0 (by rw [hz0, hz]) (some ⟨g, 0, none⟩) i c hd hold (n + 1 - i) (by omega) (by omega) (by omega) (by omega) (by rw [hz2]; omega) (by rw [hz2, hik]; exact growslice_fits (by omega) hbig)
    rw [hik] at h
    rw [hkk, hROW, hG]
    exact h
  have hGn : n + 1 ≤ G := by rw [hG]; exact grownCap_ge w _ _ _
  have hGm : G ≤ maxLen := by rw [hG]; exact grownCap_le_maxLen w (n + 1) c 153 (by unfold maxLen; omega)
  have hG63 : G ≤ 9223372036854775807 := by unfold maxLen at hGm; omega
  have hRl : ROW.size = G * 3 := by rw [hROW]; simp [size_zeroCells, hzc, hal]; omega
  have hRa : ROW.toList.take (i * 3) = hd := by rw [hROW]; simp [← hal]
  clear hROW hold hik
  obtain ⟨W1, hW1⟩ : ∃ W1, W1 = w.drew.alloc (.cells ROW 153) := ⟨_, rfl⟩
  have hW1n : W1.heap[w.heap.size]? = some (.cells ROW 153 (0, 0)) := by rw [hW1]; exact heap_alloc_new w.drew _
  have hW1o : ∀ k, k < w.heap.size → W1.heap[k]? = w.heap[k]? := fun k hk => by rw [hW1]; exact heap_alloc_old w.drew _ hk
  obtain ⟨R1, hR1⟩ : ∃ R1, R1 = ins ROW.toList (i * 3) pv := ⟨_, rfl⟩
  have hR1l : R1.length = G * 3 := by rw [hR1, ins_len (by simp [hRl, hpl]; omega)]; simpa using hRl
  obtain ⟨R2, hR2⟩ : ∃ R2, R2 = ins R1 ((i + 1) * 3) cs := ⟨_, rfl⟩
  have hR2l : R2.length = G * 3 := by rw [hR2, ins_len (by rw [hR1l, hcl]; omega)]; exact hR1l
  have hcpA : ∀ (W : World), W.heap = W1.heap → ∀ ty dc, (Builtin.copy_ #[43, 43] ty #[.slice (some ⟨w.heap.size, i * 3, none⟩) (n + 1 - i) dc, .slice (some ⟨vb, 0, none⟩) 1 vc]).run Try.prog W = .ok (goInt (Nat.min 1 (n + 1 - i))) (W.setRow w.heap.size R1.toArray) := fun W hW ty dc => by
    rw [hR1]
    have hvv : W.heap[vb]? = some (.cells curv 153 (0, 0)) := by rw [hW, hW1o vb hvw]; exact hv
    exact run_copy_rowK _ 43 43 ty 153 w.heap.size (i * 3) (n + 1 - i) dc ⟨vb, 0, none⟩ 1 vc ROW 153 pv 3 Try.underlying43 hsz (by rw [hW]; exact hW1n) (by rw [hpl]; simp only [Nat.min_def]; split <;> omega)
      (fun j v hj => by
        rw [Addr.add_lit, cell_of_row _ vb _ curv 153 (0, 0) hvv]
        rw [hpv, List.getElem?_take] at hj
        split at hj
        · simpa using hj
        · cases hj) (by rw [hpl, hRl]; omega) (fun v hv => h1v v (by rw [← hpv]; exact hv))
  have hcpB : ∀ (W : World), W.heap = (W1.setRow w.heap.size R1.toArray).heap → ∀ ty dc sc, (Builtin.copy_ #[43, 43] ty #[.slice (some ⟨w.heap.size, (i + 1) * 3, none⟩) (n - i) dc, .slice (some ⟨g, i * 3, none⟩) (n - i) sc]).run Try.prog W = .ok (goInt (Nat.min (n - i) (n - i))) (W.setRow w.heap.size R2.toArray) := fun W hW ty dc sc => by
    rw [hR2]
    have hgg : W.heap[g]? = some (.cells cur 153 (0, 0)) := by rw [hW, setRow_other W1 w.heap.size g _ (by omega), hW1o g hgw]; exact hg
    exact run_copy_rowK _ 43 43 ty 153 w.heap.size ((i + 1) * 3) (n - i) dc ⟨g, i * 3, none⟩ (n - i) sc R1.toArray 153 cs 3 Try.underlying43 hsz (by rw [hW]; exact setRow_heap W1 w.heap.size ROW _ 153 (0, 0) hW1n) (by rw [hcl]; simp only [Nat.min_def]; split <;> omega)
      (fun j v hj => by
        rw [Addr.add_lit, cell_of_row _ g _ cur 153 (0, 0) hgg]
        have : cs[j]? = (cur.toList.take (n * 3))[i * 3 + j]? := by rw [hcs, List.getElem?_drop]
        rw [this, List.getElem?_take] at hj
        split at hj
        · simpa using hj
        · cases hj) (by rw [hcl]; simp [hR1l]; omega) (fun v hv => h1 v (by rw [hcs] at hv; exact List.mem_of_mem_drop hv))
  have hEnd : R2.take ((n + 1) * 3) = hd ++ pv ++ cs := by
    have e1 : R1.take ((i + 1) * 3) = hd ++ pv := by
      rw [hR1]
      unfold ins
      rw [hRa, List.take_append_of_le_length (by simp [hal, hpl]; omega), List.take_of_length_le (by simp [hal, hpl]; omega)]
    rw [hR2]
    unfold ins
    rw [e1, List.take_append_of_le_length (by simp [hal, hpl, hcl]; omega), List.take_of_length_le (by simp [hal, hpl, hcl]; omega)]
  rw [← has, ← hcs, ← hpv]
  have hw1 : IntKind.i64.wrap ((i : Int) + 1) = (i : Int) + 1 := by rw [IntKind.wrap_i64]; unfold maxLen at hcm; omega
  have hb1 : (0 : Int) ≤ (i : Int) + 1 := by omega
  have hz2' : ¬ ((i : Int) = (n : Int)) := by omega
  have hz3 : (c : Int) < (n : Int) + 1 := by omega
  have hc63 : c ≤ 9223372036854775807 := by unfold maxLen at hcm; omega
  have htn : ((i : Int) + 1).toNat = i + 1 := by omega
  have hni : n + 1 - (i + 1) = n - i := by omega
  have mixed : Try.prog.follows Departure.mixedOrders = true := by kernel_rfl
  have hin : i ≤ n := by omega
  have hGi : ¬ (G = i) := by omega
  have hGim : ¬ (G = i + 1) := by omega
  have hci : ¬ (c = i) := by omega
  have hb3 : (i : Int) ≤ (n : Int) := by omega
  have hB := hcpB ((w.alloc (.cells ROW 153)).drew.setRow w.heap.size R1.toArray).drew (by rw [hW1]; rfl)
  have hA := hcpA (w.drew.alloc (.cells ROW 153)) (by rw [hW1])
  clear hkk hG hz hzc hR1 hR2 hcs hpv has hR1l hcl hpl hlc hRl hRa hal hvs h1 h1v
  go_enter Try.func259, Try.ntmps259
  go_wp2_with (first | (at_builtin; refine Lib.wpList_append_run _ rfl _ _ _ _ rfl _ _ rfl rfl _ _ (hrz _) ?_) | (at_builtin; refine wpList_copy_run _ rfl _ _ 43 43 rfl _ _ rfl rfl (hA _ _) ?_))
  go_region_law_o (refine step_copy_run rfl _ _ 43 43 rfl (.slice (some ⟨w.heap.size, (i + 1) * 3, none⟩) (n - i) (G - (i + 1))) (.slice (some ⟨g, i * 3, none⟩) (n - i) (c - i)) (by simp [Act.eval, Act.put]) (by simp [Act.eval, Act.put]) (hB 3 (G - (i + 1)) (c - i)) ?_)
  go_wp2
  go_ret
  have e0 : (w.alloc (.cells ROW 153)).heap = W1.heap := by rw [hW1]; rfl
  refine ⟨G, R2.toArray, rfl, hGn, hGm, by rw [List.size_toArray]; exact hR2l, by show List.take _ R2 = _; exact hEnd, rfl, rfl, rfl, (size_setRow _ _ _).trans ((size_setRow (w.alloc (.cells ROW 153)).drew _ _).trans (show (w.heap.push (.cells ROW 153)).size = _ from Array.size_push ..)), ?_, fun k hk => ?_⟩
  · refine setRow_heap _ w.heap.size R1.toArray _ 153 (0, 0) ?_
    exact setRow_heap (w.alloc (.cells ROW 153)).drew w.heap.size ROW _ 153 (0, 0) (by show (w.alloc (.cells ROW 153)).heap[w.heap.size]? = _; rw [e0]; exact hW1n)
  · refine (setRow_other _ w.heap.size k _ (by omega)).trans ?_
    refine (setRow_other (w.alloc (.cells ROW 153)).drew w.heap.size k _ (by omega)).trans ?_
    show (w.alloc (.cells ROW 153)).heap[k]? = _
    rw [e0]
    exact hW1o k hk
/-! function 259: slices.Insert[[]loop.example/g00664/impl.Page,loop.example/g00664/impl.Page] -/
noncomputable def q259 (n : Nat) (a0 : List S_Page) (a1 : Int) (a2 : List S_Page) : Option (List S_Page) :=
  bif decide (a0.length ≤ a0.length) then (bif decide ((0 : Int) ≤ a1) then (bif decide (a1.toNat ≤ a0.length) then (bif Int.ofNat a2.length == (0 : Int) then (some (a0)) else (bif a1 == Int.ofNat a0.length then (bif decide ((a0.length + a2.length) * (32 : Nat) ≤ (140737488355328 : Nat)) then (some (a0 ++ a2)) else (none)) else (none))) else (none)) else (none)) else (none)
noncomputable def c_q259 : Con UU.El := ⟨[.c (.gv 153), .c (.int .i64), .c (.gv 153)], [.c (.sl 153)], fun n x => q259 n x.1 x.2.1 x.2.2.1⟩
noncomputable def L_q259 : Nat → Option (LoopC UU.El (AM.Os UU.El ([.c (.sl 153)] ++ bkSs [.c (.gv 153), .c (.int .i64), .c (.gv 153)]))) := lk []
theorem k_q259 : ConOk Try.prog UU 259 c_q259 :=
  fun_ok (cs := []) (own := []) (N := 95) (ios := []) (pins := []) fits trivial Try.func259 (L := L_q259) (by kernel_rfl) (by kernel_rfl) (by kernel_rfl)

noncomputable def x259 (n : Nat) (a0 : List S_Page) (a1 : Int) (a2 : List S_Page) : Option (List S_Page) :=
  bif decide ((0 : Int) ≤ a1) && decide (a1.toNat < a0.length) && decide (a2.length = 1) && decide ((a0.length + 1) * 32 ≤ 140737488355328) then some (a0.take a1.toNat ++ a2 ++ a0.drop a1.toNat) else q259 n a0 a1 a2
noncomputable def c_x259 : Con UU.El := ⟨[.c (.gv 153), .c (.int .i64), .c (.gv 153)], [.c (.sl 153)], fun n x => x259 n x.1 x.2.1 x.2.2.1⟩
theorem x259_true {i : Nat} {a0 a2 : List (UU.El 153)} (h2 : a2.length = 1) (h1 : i < a0.length) (h3 : (a0.length + 1) * 32 ≤ 140737488355328) (D S : Nat → Prop) (ι : Nat → Value) (vs : List Value) (w : World) (hS : ∀ k, w.heap.size ≤ k → S k) (hSD : ∀ k, S k → D k)
    (hv : VsR UU D ι [.da 153 a0, .da 153 a2] w [.w (.c (.sl 0)), .w (.c (.sc (.int .i64 (i : Int)))), .w (.c (.sl 1))] vs) (hM : MR UU D S ι [.da 153 a0, .da 153 a2] w) :
    Calls Try.prog 259 vs.toArray w fun e w' => ∃ u, e = .returned u ∧ Ended UU D S c_x259.ins c_x259.outs (a0.take i ++ a2 ++ a0.drop i : List (UU.El 153)) w w' vs u := by
  obtain ⟨v0, r0, rfl, ⟨_, e0, _⟩, v1, r1, rfl, ⟨e1, _⟩, v2, r2, rfl, ⟨_, e2, _⟩, rfl⟩ := hv
  have f0 : v0 = ι 0 := e0
  have f1 : v1 = .int .i64 (i : Int) := e1
  have f2 : v2 = ι 1 := e2
  clear e0 e1 e2
  have B0 : w.ownsRow 0 153 (UU.sz 153) (ι 0) a0.length (flat UU 153 a0) := hM.blk 0 _ rfl
  have B1 : w.ownsRow 0 153 (UU.sz 153) (ι 1) a2.length (flat UU 153 a2) := hM.blk 1 _ rfl
  have hz : UU.sz 153 = 3 := by kernel_rfl
  obtain ⟨g, c, cur, h4, _, h5, h6, h7, h8, h9⟩ : ∃ g c cur, ι 0 = .slice (some ⟨g, 0, none⟩) a0.length c ∧ 0 ≤ g ∧ w.heap[g]? = some (.cells cur 153 (0, 0)) ∧ a0.length ≤ c ∧ c ≤ maxLen ∧ cur.size = c * UU.sz 153 ∧ cur.toList.take (a0.length * UU.sz 153) = flat UU 153 a0 := by
    rcases B0.2 with ⟨_, h⟩ | h
    · omega
    · exact h
  obtain ⟨vb, vc, curv, k4, _, k5, k6, k7, k8, k9⟩ : ∃ g c cur, ι 1 = .slice (some ⟨g, 0, none⟩) a2.length c ∧ 0 ≤ g ∧ w.heap[g]? = some (.cells cur 153 (0, 0)) ∧ a2.length ≤ c ∧ c ≤ maxLen ∧ cur.size = c * UU.sz 153 ∧ cur.toList.take (a2.length * UU.sz 153) = flat UU 153 a2 := by
    rcases B1.2 with ⟨_, h⟩ | h
    · omega
    · exact h
  have hne : vb ≠ g := fun e => by
    have := hM.inj 0 1 _ _ g rfl rfl trivial trivial (by rw [h4]; rfl) (by rw [k4, e]; rfl)
    cases this
  have hSg : S g := hM.inS 0 _ g rfl trivial (by rw [h4]; rfl)
  rw [hz] at h8 h9 k8 k9
  rw [h2, Nat.one_mul] at k9
  have hf0 := flat_one fits.U 153 a0
  have hf2 := flat_one fits.U 153 a2
  have hl0 : (flat UU 153 a0).length = a0.length * 3 := by rw [flat_len fits.U, hz]
  have hl2 : (flat UU 153 a2).length = 3 := by rw [flat_len fits.U, hz, h2]
  have hlc : cur.toList.length = c * 3 := by simpa using h8
  have hT : cur.toList.take (i * 3) = flat UU 153 (a0.take i) := by
    rw [flat_take (G := G230) fits.U 153]
    show _ = List.take (i * UU.sz 153) _
    rw [hz, ← h9, List.take_take, Nat.min_eq_left (by omega)]
  have hDr : (cur.toList.take (a0.length * 3)).drop (i * 3) = flat UU 153 (a0.drop i) := by
    rw [flat_drop (G := G230) fits.U 153]
    show _ = List.drop (i * UU.sz 153) _
    rw [hz, ← h9]
  have hY : flat UU 153 (a0.take i ++ a2 ++ a0.drop i) = cur.toList.take (i * 3) ++ curv.toList.take 3 ++ (cur.toList.take (a0.length * 3)).drop (i * 3) := by
    rw [flat_append, flat_append, hT, hDr, k9]
  have hYl : (a0.take i ++ a2 ++ a0.drop i).length = a0.length + 1 := by simp [h2]; omega
  have fin : ∀ (G g' : Nat) (R : Array Value) (w' : World), a0.length + 1 ≤ G → G ≤ maxLen → R.size = G * 3 → R.toList.take ((a0.length + 1) * 3) = cur.toList.take (i * 3) ++ curv.toList.take 3 ++ (cur.toList.take (a0.length * 3)).drop (i * 3) →
      w'.heap[g']? = some (.cells R 153 (0, 0)) → Fr S w w' → S g' → Ended UU D S c_x259.ins c_x259.outs (a0.take i ++ a2 ++ a0.drop i) w w' [v0, v1, v2] (.slice (some ⟨g', 0, none⟩) (a0.length + 1) G) := by
    intro G g' R w' j1 j2 j3 j4 j5 j6 j7
    refine ⟨j6, fun _ => .slice (some ⟨g', 0, none⟩) (a0.length + 1) G, ⟨by show 0 < 1; omega, rfl, rfl⟩, ⟨fun id b hb => ?_, fun p q b b' k hp hq => ?_, fun id b k hb hl hk => ?_⟩, fun j v hj => by have hj' : ([] : List Value)[j]? = some v := hj; simp at hj'⟩
    · have hb' : [Blk.da 153 (a0.take i ++ a2 ++ a0.drop i)][id]? = some b := hb
      cases id with
      | succ id => simp at hb'
      | zero =>
        simp at hb'
        subst hb'
        show w'.ownsRow 0 153 (UU.sz 153) _ _ _
        refine ⟨by rw [flat_len fits.U], .inr ⟨g', G, R, by rw [show (a0.take i ++ (a2 ++ a0.drop i)).length = a0.length + 1 by simpa using hYl], Nat.zero_le _, j5, by rw [show (a0.take i ++ (a2 ++ a0.drop i)).length = a0.length + 1 by simpa using hYl]; exact j1, j2, by rw [hz]; exact j3, ?_⟩⟩
        rw [show (a0.take i ++ (a2 ++ a0.drop i)).length = a0.length + 1 by simpa using hYl, hz, j4, ← hY, List.append_assoc]
    · have hp' : [Blk.da 153 (a0.take i ++ a2 ++ a0.drop i)][p]? = some b := hp
      have hq' : [Blk.da 153 (a0.take i ++ a2 ++ a0.drop i)][q]? = some b' := hq
      have := (List.getElem?_eq_some_iff.1 hp').1
      have := (List.getElem?_eq_some_iff.1 hq').1
      intros
      simp at *
      omega
    · cases hk
      exact j7
  rw [f0, f1, f2, h4, k4, h2]
  rcases Nat.lt_or_ge c (a0.length + 1) with hr | hr
  · refine (ins_grow i a0.length c g vb vc cur curv w h5 h8 h7 h1 h6 hr h3 k5 (by omega) (by rw [h9]; exact hf0) (by rw [k9]; exact hf2)).mono fun e w' he => ?_
    obtain ⟨G, R, rfl, j1, j2, j3, j4, o1, o2, o3, o4, j5, j6⟩ := he
    exact ⟨_, rfl, fin G w.heap.size R w' j1 j2 j3 j4 j5 ⟨o1, o2, o3, by omega, fun k hk _ => j6 k hk⟩ (hS _ (Nat.le_refl _))⟩
  · refine (ins_room i a0.length c g vb vc cur curv w h5 h8 h7 h1 hr k5 (by omega) hne (by rw [h9]; exact hf0) (by rw [k9]; exact hf2)).mono fun e w' he => ?_
    obtain ⟨rfl, rfl⟩ := he
    have l1 : ((cur.toList.take (a0.length * 3)).drop (i * 3)).length = (a0.length - i) * 3 := by rw [List.length_drop, List.length_take, hlc]; omega
    have l2 : (curv.toList.take 3).length = 3 := by rw [k9]; exact hl2
    have l3 := ins_len (cur := cur.toList) (o := (i + 1) * 3) (cs := (cur.toList.take (a0.length * 3)).drop (i * 3)) (by rw [l1, hlc]; omega)
    refine ⟨_, rfl, fin c g _ _ hr h7 ?_ ?_ (setRow_heap _ g _ _ 153 (0, 0) (setRow_heap w.drew g cur _ 153 (0, 0) h5)) ⟨rfl, rfl, rfl, by rw [size_setRow, size_setRow]; exact Nat.le_refl _, fun k hk hk' => ?_⟩ hSg⟩
    · rw [List.size_toArray, ins_len (by rw [l3, l2, hlc]; omega), l3, hlc]
    · generalize hcs : (cur.toList.take (a0.length * 3)).drop (i * 3) = cs at *
      generalize hpv : curv.toList.take 3 = pv at *
      have eX1 : (ins cur.toList ((i + 1) * 3) cs).take (i * 3) = cur.toList.take (i * 3) := by
        unfold ins
        rw [List.append_assoc, List.take_append_of_le_length (by rw [List.length_take, hlc]; omega), List.take_take, Nat.min_eq_left (by omega)]
      have eX2 : (ins cur.toList ((i + 1) * 3) cs).drop (i * 3 + pv.length) = cs ++ cur.toList.drop ((i + 1) * 3 + cs.length) := by
        unfold ins
        rw [List.append_assoc, List.drop_left' (by rw [List.length_take, hlc]; omega)]
      show List.take _ (ins (ins cur.toList ((i + 1) * 3) cs) (i * 3) pv) = _
      rw [ins, eX1, eX2, ← List.append_assoc, List.take_append_of_le_length (by simp [List.length_take, hlc, l1, l2]; omega), List.take_of_length_le (by simp [List.length_take, hlc, l1, l2]; omega)]
    · have hkg : k ≠ g := fun e => hk' (e ▸ hSg)
      exact (setRow_other _ g k _ hkg).trans (setRow_other w.drew g k _ hkg)
theorem k_x259 : ConOk Try.prog UU 259 c_x259 := by
  refine ⟨k_q259.enters, fun n x y hy D S ι vs w hS hSD hv hM => ?_⟩
  obtain ⟨a0, a1, a2, ⟨⟩⟩ := x
  change List S_Page at a0
  change Int at a1
  change List S_Page at a2
  have hy' : x259 n a0 a1 a2 = some y := hy
  unfold x259 at hy'
  cases hc : decide ((0 : Int) ≤ a1) && decide (a1.toNat < a0.length) && decide (a2.length = 1) && decide ((a0.length + 1) * 32 ≤ 140737488355328) with
  | false =>
    rw [hc] at hy'
    exact k_q259.sound n (a0, a1, a2, ()) y hy' D S ι vs w hS hSD hv hM
  | true =>
    rw [hc] at hy'
    simp only [Bool.and_eq_true, decide_eq_true_eq] at hc
    obtain ⟨⟨⟨h0, h1⟩, h2⟩, h3⟩ := hc
    obtain ⟨i, rfl⟩ : ∃ i : Nat, a1 = i := ⟨a1.toNat, by omega⟩
    simp only [Int.toNat_natCast] at h1 hy'
    obtain rfl : y = a0.take i ++ a2 ++ a0.drop i := (Option.some.inj hy').symm
    exact x259_true h2 h1 h3 D S ι vs w hS hSD hv hM
end Go.Proofs.Ytigoabhkdipdeaa
