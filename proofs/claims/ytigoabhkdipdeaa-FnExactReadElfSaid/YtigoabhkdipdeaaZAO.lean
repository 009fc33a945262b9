/- A part of the plain reading of Go's code: what a function's code comes to, by a plain function. No condition. -/
import Derived.Test.YtigoabhkdipdeaaZAR
import Derived.Laws.StructEq
import Derived.Laws.Concat
import Derived.Laws.Small
import Derived.Laws.Slices
import Derived.Laws.Cells
import Derived.Laws.Unary
import Derived.Laws.BytesString
import Derived.Laws.Build
namespace Go.Proofs.Ytigoabhkdipdeaa.AM
open Go.RowKit

/-- What the program says of a type. -/
def TyOk (P : Program) (U : Univ) (ti : Nat → Option TI) (t : Nat) : Ty → Prop
  | .int k => P.underlying t = some (.int k)
  | .bool => P.underlying t = some .bool
  | .str => P.underlying t = some .string
  | .sl e => P.underlying t = some (.slice e) ∧ ∃ y, ti e = some y ∧ y.size = U.sz e ∧ 0 < y.size ∧ 0 < y.bytes
  | .st fs => ∃ F : Array Field, P.underlying t = some (.struct F) ∧ F.toList.map (fun f => (f.offset, f.type)) = fs ∧ (∃ places, F.toList.mapM (fun f => (P.info? f.type).map fun i => (f.offset, i.size)) = some places) ∧ P.stoodInHeld t = false ∧ P.eqGuardType P.depth t = false ∧ ∀ f ∈ F.toList, f.name ≠ "_"
  | .arr n e => P.underlying t = some (.array n e) ∧ ∃ y, ti e = some y ∧ y.size = U.sz e ∧ 0 < y.size ∧ 0 < y.bytes
  | .ptr e => P.underlying t = some (.pointer e)
  | .other => (P.underlying t).isSome = true ∧ (∀ F, P.underlying t ≠ some (.struct F)) ∧ ∀ n e, P.underlying t ≠ some (.array n e)

def zvals (U : Univ) : List Z → List Value
  | [] => []
  | .int k :: zs => .int k 0 :: zvals U zs
  | .bool :: zs => .bool false :: zvals U zs
  | .str :: zs => .string ⟨#[]⟩ :: zvals U zs
  | .sl :: zs => .slice none 0 0 :: zvals U zs
  | .ptr :: zs => .pointer none :: zvals U zs
  | .func :: zs => .nilFunc :: zvals U zs
  | .arr e n :: zs => flat U e (List.replicate n (U.dflt e)) ++ zvals U zs

structure TIok (P : Program) (U : Univ) (ti : Nat → Option TI) (t : Nat) (x : TI) : Prop where
  ty : TyOk P U ti t x.ty
  info : ∃ i z, P.info? t = some i ∧ i.size = x.size ∧ i.bytes = x.bytes ∧ i.zero = some z ∧ z.cells.toList = zvals U x.zero ∧ (isAggT x = true → ∃ cs, z = .agg cs)
  el : ∀ s n, (x.ty = .sl s ∨ x.ty = .arr n s) → ∀ y, ti s = some y → zvals U y.zero = U.cells s (U.dflt s)

/-- The table and the elements fit the program. -/
structure Fits (P : Program) (U : Univ) (ti : Nat → Option TI) : Prop where
  ti : ∀ t x, ti t = some x → TIok P U ti t x
  U : UOk U
  mixed : P.follows .mixedOrders = true

variable {ρ : Type}

section
variable (P : Program) (G : Cfg) (B : Nat → Prop) (ι : Nat → Value) (m : List (Blk G.U.El)) (w : World)

/-- An operation that turns nothing. -/
def RunsP (s : Sem Value) (K : W G.U.El → Option ρ) (r : ρ) : Prop := ∃ x u, s.run P w = .ok u w ∧ K x = some r ∧ WR G.U B ι m w x u
end

section
variable {P : Program} {G : Cfg} {B : Nat → Prop} {ι : Nat → Value} {m : List (Blk G.U.El)} {w : World} {r : ρ} {K : W G.U.El → Option ρ}

theorem wr_sc {v : Value} (h : v.oneCell' = true) : WR G.U B ι m w (.c (.sc v)) v := by exact And.intro rfl h
theorem vr_sc {v u : Value} (h : VR G.U B ι m w (.w (.c (.sc v))) u) : u = v := And.left h

theorem cond_some {b : Bool} {x y : Option ρ} {r : ρ} : cond b x y = some r ↔ (b = true ∧ x = some r) ∨ (b = false ∧ y = some r) := by cases b <;> simp
theorem cond_n {b : Bool} {y : Option ρ} {r : ρ} : cond b none y = some r ↔ (b = false ∧ y = some r) := by cases b <;> simp
theorem cond_y {b : Bool} {x : Option ρ} {r : ρ} : cond b x none = some r ↔ (b = true ∧ x = some r) := by cases b <;> simp

theorem aInt_ok {op : BinOp} {k yk : IntKind} {a b : Int} (t : TypeId) (hk : op = .shl ∨ op = .shr ∨ k = yk) (h : aInt op k a b K = some r) :
    RunsP P G B ι m w (binOp op t (.int k a) (.int yk b)) K r := by
  cases op <;> simp only [aInt, cond_n] at h
  case shl => exact ⟨_, _, by have := h.1; simp only [decide_eq_false_iff_not, Int.not_lt] at this; simp only [binOp, Op.shift, if_neg (Int.not_lt.2 this), Sem.run_pure], h.2, wr_sc rfl⟩
  case shr => exact ⟨_, _, by have := h.1; simp only [decide_eq_false_iff_not, Int.not_lt] at this; simp only [binOp, Op.shift, if_neg (Int.not_lt.2 this), Sem.run_pure], h.2, wr_sc rfl⟩
  all_goals obtain rfl : k = yk := by simpa using hk
  case quo => exact ⟨_, _, by have h0 : ¬ b = 0 := by simpa using h.1
                              simp only [binOp_quo, Op.intDiv, if_neg h0, Sem.run_pure], h.2, wr_sc rfl⟩
  case rem => exact ⟨_, _, by have h0 : ¬ b = 0 := by simpa using h.1
                              simp only [binOp_rem, Op.intDiv, if_neg h0, Sem.run_pure], h.2, wr_sc rfl⟩
  case add => exact ⟨_, _, by simp only [binOp_add, Op.intArith, Sem.run_pure], h, wr_sc rfl⟩
  case sub => exact ⟨_, _, by simp only [binOp_sub, Op.intArith, Sem.run_pure], h, wr_sc rfl⟩
  case mul => exact ⟨_, _, by simp only [binOp_mul, Op.intArith, Sem.run_pure], h, wr_sc rfl⟩
  case and => exact ⟨_, _, by simp only [binOp_and]; rfl, h, wr_sc rfl⟩
  case or => exact ⟨_, _, by simp only [binOp_or]; rfl, h, wr_sc rfl⟩
  case xor => exact ⟨_, _, by simp only [binOp_xor]; rfl, h, wr_sc rfl⟩
  case andNot => exact ⟨_, _, by simp only [binOp_andNot]; rfl, h, wr_sc rfl⟩
  case eql => exact ⟨_, _, by simp only [binOp_eql, Sem.run_pure], h, wr_sc rfl⟩
  case neq => exact ⟨_, _, by simp only [binOp_neq, Sem.run_pure], h, wr_sc rfl⟩
  case lss => exact ⟨_, _, by simp only [binOp_lss, Sem.run_pure], h, wr_sc rfl⟩
  case leq => exact ⟨_, _, by simp only [binOp_leq, Sem.run_pure], h, wr_sc rfl⟩
  case gtr => exact ⟨_, _, by simp only [binOp_gtr, Sem.run_pure], h, wr_sc rfl⟩
  case geq => exact ⟨_, _, by simp only [binOp_geq, Sem.run_pure], h, wr_sc rfl⟩

theorem aStr_ok {op : BinOp} {a b : ByteArray} (t : TypeId) (h : aStr op a b K = some r) : RunsP P G B ι m w (binOp op t (.string a) (.string b)) K r := by
  have e : ∀ op, binOp op t (.string a) (.string b) = Op.stringOp op a b := fun op => by cases op <;> rfl
  rw [RunsP, e]
  cases op <;> simp only [aStr, cond_n] at h <;> first | contradiction | skip
  case add =>
    obtain ⟨h1, h2⟩ := h
    refine ⟨_, _, ?_, h2, wr_sc rfl⟩
    have h1' : ¬ (((a.size + b.size : Nat) : Int) > IntKind.i64.max) := by simpa using h1
    simp only [Op.stringOp, if_neg h1']
    rfl
  case eql => exact ⟨_, _, rfl, h, wr_sc rfl⟩
  case neq => exact ⟨_, _, rfl, h, wr_sc rfl⟩

theorem aUn_ok {op : UnOp} {x : V G.U.El} {u : Value} (hx : VR G.U B ι m w x u) (h : aUn op x K = some r) : RunsP P G B ι m w (Op.unary op u) K r := by
  unfold aUn at h
  split at h
  · cases vr_sc hx; exact ⟨_, _, rfl, h, wr_sc rfl⟩
  · cases vr_sc hx; exact ⟨_, _, rfl, h, wr_sc rfl⟩
  · cases vr_sc hx; exact ⟨_, _, rfl, h, wr_sc rfl⟩
  · cases h

theorem isAgg_run {t : Nat} {x : TI} (hx : TIok P G.U G.ti t x) : (isAgg t).run P w = .ok (isAggT x) w := by
  have h := hx.ty
  unfold isAgg isAggT
  cases hty : x.ty <;> rw [hty] at h <;> simp only [TyOk] at h
  case int => simp [run_underlying h]
  case bool => simp [run_underlying h]
  case str => simp [run_underlying h]
  case sl => simp [run_underlying h.1]
  case st => obtain ⟨F, h, _⟩ := h; simp [run_underlying h]
  case arr => simp [run_underlying h.1]
  case ptr => simp [run_underlying h]
  case other =>
    obtain ⟨h1, h2, h3⟩ := h
    obtain ⟨d, hd⟩ := Option.isSome_iff_exists.1 h1
    simp only [Sem.run_bind, run_underlying hd, Result.andThen_ok]
    cases d <;> first | rfl | exact absurd hd (h2 _) | exact absurd hd (h3 _ _)

theorem sizeOf_run {t : Nat} {x : TI} (hx : TIok P G.U G.ti t x) : (sizeOf t).run P w = .ok x.size w := by
  obtain ⟨i, z, hi, hs, _⟩ := hx.info
  simp [sizeOf, typeInfo, hi, hs]

theorem loadVar_ok {t : Nat} {x : TI} (hx : TIok P G.U G.ti t x) {cs : List (C G.U.El)} {seg : List Value} (b o : Nat) (hseg : ∀ j v, seg[j]? = some v → w.cell? ⟨b, o + j, none⟩ = some v)
    (hlen : seg.length = x.size) (hc : CsR G.U B ι m w cs seg) {y : W G.U.El} (hy : mkW x cs = some y) : ∃ u, (loadVar t ⟨b, o, none⟩).run P w = .ok u w ∧ WR G.U B ι m w y u := by
  unfold mkW at hy
  simp only [loadVar, Sem.run_bind, isAgg_run hx, Result.andThen_ok]
  split at hy
  · rename_i ha
    cases hy
    rw [if_pos ha]
    refine ⟨.agg seg.toArray, ?_, seg, rfl, hc⟩
    simp only [Sem.run_bind, sizeOf_run hx, Result.andThen_ok]
    rw [← hlen, run_loadCells_list w ⟨b, o, none⟩ seg (fun j v hv => by rw [Addr.add_lit]; exact hseg j v hv)]
    rfl
  · rename_i ha
    rw [if_neg ha]
    split at hy
    · cases hy
    · rename_i c hne
      cases hy
      obtain ⟨v, hv, hr⟩ := hc.single (fun t n l e => hne t n l (by rw [e]))
      refine ⟨v, ?_, hr⟩
      have := hseg 0 v (by rw [hv]; rfl)
      simp only [Nat.add_zero] at this
      simp [run_load, this]
    · cases hy

theorem part_ok {t : Nat} {x : TI} (hx : TIok P G.U G.ti t x) {cs : List (C G.U.El)} (all : List Value) (o : Nat) (hlen : o + x.size ≤ all.length)
    (hc : CsR G.U B ι m w cs ((all.drop o).take x.size)) {y : W G.U.El} (hy : mkW x cs = some y) : ∃ u, (part t all.toArray o).run P w = .ok u w ∧ WR G.U B ι m w y u := by
  unfold mkW at hy
  simp only [part, Sem.run_bind, isAgg_run hx, Result.andThen_ok]
  split at hy
  · rename_i ha
    cases hy
    rw [if_pos ha]
    refine ⟨.agg (((all.drop o).take x.size).toArray), ?_, _, rfl, hc⟩
    simp only [Sem.run_bind, sizeOf_run hx, Result.andThen_ok]
    have : all.toArray.extract o (o + x.size) = ((all.drop o).take x.size).toArray := by
      simp [List.extract_toArray, List.extract_eq_take_drop]
    rw [this]
    rfl
  · rename_i ha
    rw [if_neg ha]
    split at hy
    · cases hy
    · rename_i c hne
      cases hy
      obtain ⟨v, hv, hr⟩ := hc.single (fun t n l e => hne t n l (by rw [e]))
      refine ⟨v, ?_, hr⟩
      have h0 : ((all.drop o).take x.size)[0]? = some v := by rw [hv]; rfl
      rw [List.getElem?_take] at h0
      split at h0
      · rw [List.getElem?_drop, Nat.add_zero] at h0
        simp [h0]
      · cases h0
    · cases hy

/-- The elements' cells, read as scalars. -/
theorem elem_cs (hU : UOk G.U) {t : Nat} {y : G.U.El t} {off size : Nat} {cs : List (C G.U.El)} (h : elemAt G t y off size = some cs) :
    off + size ≤ (G.U.cells t y).length ∧ CsR G.U B ι m w cs (((G.U.cells t y).drop off).take size) := by
  unfold elemAt at h
  split at h
  · cases h
    exact ⟨by rw [hU.len]; assumption, CsR.scs fun v hv => hU.one t y v (List.mem_of_mem_drop (List.mem_of_mem_take hv))⟩
  · cases h

/-- An element's part, out of a row that lies at a place. -/
theorem loadElem_ok (hU : UOk G.U) {t : Nat} {x : TI} (hx : TIok P G.U G.ti t x) {e : Nat} {l : List (G.U.El e)} {i off : Nat} (hi : i < l.length) (b o : Nat)
    (hseg : ∀ j v, (flat G.U e l)[j]? = some v → w.cell? ⟨b, o + j, none⟩ = some v) {z : W G.U.El} (hz : (elemAt G e (rd (G.U.dflt e) l i) off x.size).bind (mkW x) = some z) :
    ∃ u, (loadVar t ⟨b, o + (i * G.U.sz e + off), none⟩).run P w = .ok u w ∧ WR G.U B ι m w z u := by
  obtain ⟨cs, h1, h2⟩ := Option.bind_eq_some_iff.1 hz
  obtain ⟨h3, h4⟩ := elem_cs (B := B) (ι := ι) (m := m) (w := w) hU h1
  refine loadVar_ok hx b _ (seg := ((G.U.cells e (rd (G.U.dflt e) l i)).drop off).take x.size) (fun j v hv => ?_) (by simp; omega) h4 h2
  rw [List.getElem?_take] at hv
  split at hv
  · rw [List.getElem?_drop] at hv
    have := hseg _ _ (flat_get hU e l i hi _ _ _ hv)
    rwa [show o + (i * G.U.sz e + off) + j = o + (i * G.U.sz e + (off + j)) by omega]
  · cases hv

theorem aLoad_ok (hF : Fits P G.U G.ti) {S : Nat → Prop} (hm : MR G.U B S ι m w) {t : Nat} {a : V G.U.El} {u : Value} (ha : VR G.U B ι m w a u) (h : aLoad G t a m K = some r) :
    RunsP P G B ι m w (Instr.loadAt t u) K r := by
  unfold aLoad at h
  split at h
  · cases h
  rename_i x hx
  have hti := hF.ti t x hx
  have fin : ∀ {y : Option (W G.U.El)} {b o : Nat}, u = .pointer (some ⟨b, o, none⟩) → y.elim none K = some r →
      (∀ z, y = some z → ∃ v, (loadVar t ⟨b, o, none⟩).run P w = .ok v w ∧ WR G.U B ι m w z v) → RunsP P G B ι m w (Instr.loadAt t u) K r := by
    intro y b o hu hk hl
    cases y with
    | none => cases hk
    | some z =>
      obtain ⟨v, h1, h2⟩ := hl z rfl
      refine ⟨z, v, ?_, hk, h2⟩
      rw [hu]
      simp [Instr.loadAt, Instr.sureAddr, h1]
  split at h
  · rename_i id off
    obtain ⟨hid, β, h1, h2⟩ := ha
    split at h
    · rename_i t' cs hm'
      obtain ⟨β', vs, h3, h4, h5⟩ := hm.blk _ _ hm'
      rw [h1] at h3
      cases h3
      refine fin h2 h fun z hz => ?_
      obtain ⟨cs', h6, h7⟩ := Option.bind_eq_some_iff.1 hz
      obtain ⟨h8, h9⟩ := getAt_ok hF.U h6 h5
      refine loadVar_ok hti β off (seg := (vs.toList.drop off).take x.size) (fun j v hv => ?_) (by simp at h8 ⊢; omega) h9 h7
      rw [List.getElem?_take] at hv
      split at hv
      · rw [List.getElem?_drop] at hv
        simp [World.cell?, h4, ← hv]
      · cases hv
    · cases h
  · rename_i id t' i off
    obtain ⟨hid, g, n, c, h1, h2, h3⟩ := ha
    split at h
    · rename_i e l hm'
      split at h
      · rename_i hte
        subst hte
        have hb := hm.blk _ _ hm'
        simp only [BR, h1] at hb
        have hn : l.length = n := by
          rcases hb.2 with ⟨h', _⟩ | ⟨g', cap', cur, h', _⟩
          · simp at h'
          · simp at h'; exact h'.2.1.symm
        subst hn
        refine fin h3 h fun z hz => ?_
        have := loadElem_ok (w := w) (B := B) (ι := ι) (m := m) hF.U hti h2 g 0 (fun j v hj => ?_) hz
        · simpa using this
        · have hlt := (List.getElem?_eq_some_iff.1 hj).1
          rw [flat_len hF.U] at hlt
          rw [Nat.zero_add, World.ownsRow.cellAt hb j hlt, hj]
      · cases h
    · cases h
  · rename_i e l i off
    obtain ⟨hi, b, o, h1, h2⟩ := ha
    refine fin h1 h fun z hz => ?_
    exact loadElem_ok hF.U hti hi b o (fun j v hj => by
      obtain ⟨b', o', h3, h4, _⟩ := h2 j v hj
      cases h3
      exact h4) hz
  · rename_i id e' n f i off
    obtain ⟨hid, hi, β, h1, h2⟩ := ha
    split at h
    · rename_i t' cs hm'
      obtain ⟨β', vs, h3, h4, h5⟩ := hm.blk _ _ hm'
      rw [h1] at h3
      cases h3
      split at h
      · rename_i e n' l rest hd
        split at h
        · rename_i hee
          subst hee
          split at h
          · rename_i hnn
            subst hnn
            obtain ⟨h6, a, r', h7, ⟨h8, h9⟩, _⟩ := dropW_ok hF.U hd h5
            refine fin h2 h fun z hz => ?_
            have := loadElem_ok (w := w) (B := B) (ι := ι) (m := m) hF.U hti (h8.symm ▸ hi) β f (fun j v hj => ?_) hz
            · simpa [Nat.add_assoc] using this
            · rw [← h9] at hj
              have : (vs.toList.drop f)[j]? = some v := by rw [h7, List.getElem?_append_left (List.getElem?_eq_some_iff.1 hj).1]; exact hj
              rw [List.getElem?_drop] at this
              simp [World.cell?, h4, ← this]
          · cases h
        · cases h
      · cases h
    · cases h
  · cases h

theorem cells_one {v : Value} (h : v.oneCell' = true) : v.cells.toList = [v] := by
  cases v <;> first | rfl | (simp [Value.oneCell'] at h)

theorem WR.cells : ∀ {y : W G.U.El} {v : Value}, WR G.U B ι m w y v → CsR G.U B ι m w y.cells v.cells.toList
  | .agg xs, _, ⟨vs, h1, h2⟩ => by rw [h1]; exact h2
  | .c x, v, h => by
    have h0 : CR G.U B ι m w x v := h
    rw [cells_one h0.one]
    exact ⟨[v], [], rfl, h0.cw, rfl⟩

theorem flat_set (hU : UOk G.U) (t : Nat) (l : List (G.U.El t)) (i : Nat) (hi : i < l.length) (y : G.U.El t) :
    flat G.U t (l.set i y) = (flat G.U t l).take (i * G.U.sz t) ++ (G.U.cells t y ++ (flat G.U t l).drop (i * G.U.sz t + G.U.sz t)) := by
  induction l generalizing i with
  | nil => simp at hi
  | cons z l ih =>
    have e : ∀ (z : G.U.El t) l, flat G.U t (z :: l) = G.U.cells t z ++ flat G.U t l := fun z l => by simp [flat]
    have hz := hU.len t z
    cases i with
    | zero => simp [e, List.drop_append, hz]
    | succ i =>
      have := ih i (by simpa using hi)
      rw [List.set_cons_succ, e, this, e, show (i + 1) * G.U.sz t = (G.U.cells t z).length + i * G.U.sz t by rw [hz, Nat.add_mul]; omega, List.take_length_add_append, List.append_assoc,
        show (G.U.cells t z).length + i * G.U.sz t + G.U.sz t = (G.U.cells t z).length + (i * G.U.sz t + G.U.sz t) by omega, List.drop_length_add_append]

theorem setElem_ok (hU : UOk G.U) {t : Nat} {l l' : List (G.U.El t)} {i off : Nat} {vs : List Value} (hi : i < l.length) (h : setElem G t l i off vs = some l') :
    l'.length = l.length ∧ i * G.U.sz t + off + vs.length ≤ (flat G.U t l).length ∧
    flat G.U t l' = (flat G.U t l).take (i * G.U.sz t + off) ++ (vs ++ (flat G.U t l).drop (i * G.U.sz t + off + vs.length)) := by
  unfold setElem at h
  split at h
  · rename_i hle
    obtain ⟨y, h1, rfl⟩ := Option.map_eq_some_iff.1 h
    have hy := hU.back _ _ _ h1
    have hlen : i * G.U.sz t + G.U.sz t ≤ (flat G.U t l).length := by
      rw [flat_len hU]
      calc i * G.U.sz t + G.U.sz t = (i + 1) * G.U.sz t := by rw [Nat.add_mul]; omega
        _ ≤ l.length * G.U.sz t := Nat.mul_le_mul_right _ hi
    refine ⟨by simp, by omega, ?_⟩
    rw [flat_set hU t l i hi, hy, ← flat_at hU t l i hi]
    generalize flat G.U t l = F at *
    generalize i * G.U.sz t = a at *
    generalize G.U.sz t = s at *
    rw [List.take_add, List.append_assoc, List.append_assoc, List.append_assoc]
    congr 1
    rw [List.take_take, Nat.min_eq_left (by omega)]
    congr 2
    rw [show a + off + vs.length = a + (off + vs.length) by omega, ← List.drop_drop (i := off + vs.length), ← List.drop_drop (i := s)]
    have hH : s ≤ (F.drop a).length := by simp; omega
    generalize F.drop a = H at *
    have h := List.drop_append_of_le_length (l₁ := H.take s) (l₂ := H.drop s) (i := off + vs.length) (by simp; omega)
    rw [List.take_append_drop] at h
    exact h.symm
  · cases h

theorem take_mid {α : Type} (c vs : List α) (k n : Nat) (h : k + vs.length ≤ n) (hn : n ≤ c.length) :
    (c.take k ++ (vs ++ c.drop (k + vs.length))).take n = (c.take n).take k ++ (vs ++ (c.take n).drop (k + vs.length)) := by
  have hk : (c.take k).length = k := by simp; omega
  rw [List.take_append, List.take_append, hk, List.take_of_length_le (by omega : (c.take k).length ≤ n), List.take_of_length_le (by omega : vs.length ≤ n - k),
    List.take_take, Nat.min_eq_left (by omega), List.drop_take]
  congr 3
  omega

theorem Fr.of_grown {S : Nat → Prop} {w w' : World} {row : Option Nat} (h : w.grownBy w' row) (hS : ∀ k, row = some k → S k) : Fr S w w' :=
  ⟨h.os, h.tape, h.output, h.size, fun k hk hs => h.block k hk fun e => hs (hS k e.symm)⟩

theorem setRow_grown (w : World) (g : Nat) (cs : Array Value) : w.grownBy (w.setRow g cs) (some g) :=
  ⟨rfl, rfl, rfl, by simp [World.setRow], fun k _ hk => setRow_other w g k cs (fun e => hk (by rw [e]))⟩

theorem aStore_ok (hF : Fits P G.U G.ti) {S : Nat → Prop} (hm : MR G.U B S ι m w) {t : Nat} {a v : V G.U.El} {u uv : Value} (ha : VR G.U B ι m w a u) (hv : VR G.U B ι m w v uv) {m' : List (Blk G.U.El)}
    (h : aStore G t a v m = some m') : ∃ w', (Instr.storeAt t u uv).run P w = .ok () w' ∧ Grow G.U ι m w ι m' w' ∧ MR G.U B S ι m' w' ∧ Fr S w w' := by
  unfold aStore at h
  split at h
  case h_2 => cases h
  rename_i x y hx
  have hti := hF.ti t x hx
  have hcv := WR.cells hv
  -- the store's run at a block
  have fin : ∀ {β : Nat} {o : Nat} {vs : Array Value} {t' : Nat}, u = .pointer (some ⟨β, o, none⟩) → uv.cells.toList.length = x.size → w.heap[β]? = some (.cells vs t' (0, 0)) → o + uv.cells.toList.length ≤ vs.size →
      (Instr.storeAt t u uv).run P w = .ok () (w.setRow β (vs.toList.take o ++ (uv.cells.toList ++ vs.toList.drop (o + uv.cells.toList.length))).toArray) := by
    intro β o vs t' hu hl hb ho
    have := run_storeCells_at (P := P) β o t' uv.cells.toList 0 vs w hb (by simpa using ho) (hcv.one hF.U)
    simp only [Nat.add_zero, List.append_assoc] at this
    rw [hu]
    simp only [Array.length_toList] at hl
    simp [Instr.storeAt, Instr.sureAddr, storeVar, sizeOf_run hti, hl, this]
  split at h
  · rename_i id off
    obtain ⟨hid, β, h1, h2⟩ := ha
    split at h
    · rename_i t' cs hm'
      obtain ⟨β', vs, h3, h4, h5⟩ := hm.blk _ _ hm'
      rw [h1] at h3
      cases h3
      split at h
      · rename_i hwd
        obtain ⟨cs', h6, rfl⟩ := Option.map_eq_some_iff.1 h
        have hlen := hcv.len hF.U
        obtain ⟨h7, h8⟩ := putAt_ok hF.U h6 h5 hcv
        have h8' : CsR G.U B ι m w cs' (vs.toList.take off ++ (uv.cells.toList ++ vs.toList.drop (off + uv.cells.toList.length))) := by rw [hlen, hwd]; exact h8
        have hrun := fin h2 (hlen.trans hwd) h4 (by rw [hlen, hwd]; simpa using h7)
        have hgr := setRow_grown w β (vs.toList.take off ++ (uv.cells.toList ++ vs.toList.drop (off + uv.cells.toList.length))).toArray
        have hw := hm.write (w' := w.setRow β (vs.toList.take off ++ (uv.cells.toList ++ vs.toList.drop (off + uv.cells.toList.length))).toArray) id _ (.st t' cs') hm' trivial hgr.size (fun k hk hne => hgr.block k hk (fun e => hne (by rw [h1]; exact e.symm))) (fun hg =>
          ⟨β, _, h1, setRow_heap w β vs _ t' (0, 0) h4, by
            rw [List.toList_toArray]
            exact h8'.grow hg⟩)
        exact ⟨_, hrun, hw.1, hw.2, Fr.of_grown hgr fun k hk => by cases hk; exact hm.inS id _ _ hm' trivial (by rw [h1]; rfl)⟩
      · cases h
    · cases h
  · rename_i id t' i off
    obtain ⟨hid, g, n, c, h1, h2, h3⟩ := ha
    split at h
    · rename_i e l hm'
      split at h
      · rename_i hte
        subst hte
        obtain ⟨us, h4, h5⟩ := Option.bind_eq_some_iff.1 h
        split at h5
        · rename_i hul
          obtain ⟨l', h6, rfl⟩ := Option.map_eq_some_iff.1 h5
          have hus := scs_ok h4 hcv
          have hb := hm.blk _ _ hm'
          simp only [BR, h1] at hb
          obtain ⟨hb1, hb2⟩ := hb
          rcases hb2 with ⟨h', _⟩ | ⟨g', cap', cur, h', hz, hg, hnc, hcm, hcs, htk⟩
          · simp at h'
          simp only [Value.slice.injEq, Option.some.injEq, Addr.mk.injEq, and_true] at h'
          obtain ⟨rfl, rfl, rfl⟩ := h'
          obtain ⟨h7, h8, h9⟩ := setElem_ok hF.U h2 h6
          subst hus
          have hfl : (flat G.U t' l).length ≤ cur.size := by rw [← htk]; simp; omega
          have hrun := fin h3 hul hg (by omega)
          have hk : i * G.U.sz t' + off + uv.cells.size ≤ cur.size := by
            rw [Array.length_toList] at h8
            omega
          have hgr := setRow_grown w g (cur.toList.take (i * G.U.sz t' + off) ++ (uv.cells.toList ++ cur.toList.drop (i * G.U.sz t' + off + uv.cells.toList.length))).toArray
          have hw := hm.write (w' := w.setRow g (cur.toList.take (i * G.U.sz t' + off) ++ (uv.cells.toList ++ cur.toList.drop (i * G.U.sz t' + off + uv.cells.toList.length))).toArray) id _ (.da t' l') hm' trivial hgr.size (fun k hk hne => hgr.block k hk (fun e => hne (by rw [h1]; exact e.symm))) (fun hg' => by
            refine ⟨flat_len hF.U _ _, .inr ⟨g, c, _, by rw [h1, h7], Nat.zero_le _, setRow_heap w g cur _ t' (0, 0) hg, by rw [h7]; exact hnc, hcm, ?_, ?_⟩⟩
            · simp; omega
            · rw [h9, h7, ← htk, List.toList_toArray]
              refine take_mid _ _ _ _ ?_ (by simp; rw [hcs]; exact Nat.mul_le_mul_right _ hnc)
              rw [flat_len hF.U] at h8
              exact h8)
          exact ⟨_, hrun, hw.1, hw.2, Fr.of_grown hgr fun k hk => by cases hk; exact hm.inS id _ _ hm' trivial (by rw [h1]; rfl)⟩
        · cases h5
      · cases h
    · cases h
  · rename_i id e' n f i off
    obtain ⟨hid, hi, β, h1, h2⟩ := ha
    split at h
    · rename_i t' cs hm'
      obtain ⟨β', vs, h3, h4, h5⟩ := hm.blk _ _ hm'
      rw [h1] at h3
      cases h3
      split at h
      · rename_i ca e k l cb hta hdr
        split at h
        · rename_i hee
          subst hee
          split at h
          · rename_i hkn
            subst hkn
            obtain ⟨us, h6, h7⟩ := Option.bind_eq_some_iff.1 h
            split at h7
            · rename_i hul
              obtain ⟨l', h8, rfl⟩ := Option.map_eq_some_iff.1 h7
              have hus := scs_ok h6 hcv
              subst hus
              obtain ⟨hf1, hta'⟩ := takeW_ok hF.U hta h5
              obtain ⟨_, va, vr, hv1, ⟨hv2, hv3⟩, hv4⟩ := dropW_ok hF.U hdr h5
              obtain ⟨h9, h10, h11⟩ := setElem_ok hF.U (hv2.symm ▸ hi) h8
              have hlen : f + (flat G.U e' l).length ≤ vs.toList.length := by
                have := congrArg List.length hv1
                rw [List.length_append, hv3, List.length_drop] at this
                omega
              have hX : vs.toList.take (f + (i * G.U.sz e' + off)) ++ (uv.cells.toList ++ vs.toList.drop (f + (i * G.U.sz e' + off) + uv.cells.toList.length)) = vs.toList.take f ++ (flat G.U e' l' ++ vr) := by
                rw [h11, List.take_add, hv1, hv3, show f + (i * G.U.sz e' + off) + uv.cells.toList.length = f + (i * G.U.sz e' + off + uv.cells.toList.length) by omega, ← List.drop_drop, hv1, hv3,
                  List.take_append_of_le_length (by omega), List.drop_append_of_le_length h10]
                simp only [List.append_assoc]
              have hrun := fin (o := f + (i * G.U.sz e' + off)) (by rw [h2, Nat.add_assoc]) hul h4 (by simp only [Array.length_toList] at hlen h10 ⊢; omega)
              have hgr := setRow_grown w β (vs.toList.take (f + (i * G.U.sz e' + off)) ++ (uv.cells.toList ++ vs.toList.drop (f + (i * G.U.sz e' + off) + uv.cells.toList.length))).toArray
              have hw := hm.write (w' := w.setRow β (vs.toList.take (f + (i * G.U.sz e' + off)) ++ (uv.cells.toList ++ vs.toList.drop (f + (i * G.U.sz e' + off) + uv.cells.toList.length))).toArray) id _ (.st t' (ca ++ .arr e' k l' :: cb)) hm' trivial hgr.size (fun k hk hne => hgr.block k hk (fun e => hne (by rw [h1]; exact e.symm))) (fun hg =>
                ⟨β, _, h1, setRow_heap w β vs _ t' (0, 0) h4, by
                  have hb : CsR G.U B ι _ _ (.arr e' k l' :: cb) (flat G.U e' l' ++ vr) := ⟨_, vr, rfl, ⟨h9.trans hv2, rfl⟩, hv4.grow hg⟩
                  have hc := (hta'.grow hg).app hb
                  rw [← hX] at hc
                  rw [List.toList_toArray]
                  exact hc⟩)
              exact ⟨_, hrun, hw.1, hw.2, Fr.of_grown hgr fun k hk => by cases hk; exact hm.inS id _ _ hm' trivial (by rw [h1]; rfl)⟩
            · cases h7
          · cases h
        · cases h
      · cases h
    · cases h
  · cases h
end
end Go.Proofs.Ytigoabhkdipdeaa.AM
