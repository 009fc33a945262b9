/- Laid by a program of this session (patch_print.py) out of the translation: plain functions and what the calls do. No condition. -/
import Derived.Test.YtonogadabgilfaaPFnExactMaskOfx0
namespace Go.Proofs.Ytonogadabgilfaa.PFnExactMaskOf
open Go.RowKit Go.Proofs.YtonogadabgilfaaW.PrintWords Go.Proofs.YtonogadabgilfaaW.PrintLast Go.Proofs.YtonogadabgilfaaW.PrintMore
attribute [local go_sem] max2_int min2_int max_two min_two max_three min_three max_four min_four   -- for this text's walks alone
set_option linter.unusedVariables false
set_option linter.unusedSimpArgs false

/-! ### laws_toOperand: function 52 -/
def laws_toOperand.f (a0_0 : Int) (a0_1 : Int) (a0_2 : Int) (a0_3 : Int) (a0_4 : Int) (a0_5 : Int) (a0_6 : Int) : Option (Int × Int × Int × Int × Int × Int × Int) := some (a0_0, a0_1, a0_2, a0_3, a0_4, a0_5, a0_6)
set_option maxHeartbeats 8000000 in
set_option maxRecDepth 100000 in
theorem laws_toOperand.calls (a0_0 : Int) (a0_1 : Int) (a0_2 : Int) (a0_3 : Int) (a0_4 : Int) (a0_5 : Int) (a0_6 : Int) (r1 : Int) (r2 : Int) (r3 : Int) (r4 : Int) (r5 : Int) (r6 : Int) (r7 : Int) (w : World) (h : laws_toOperand.f a0_0 a0_1 a0_2 a0_3 a0_4 a0_5 a0_6 = some (r1, r2, r3, r4, r5, r6, r7)) :
  Calls Try.prog 52 #[.agg #[.int .i64 a0_0, .int .i64 a0_1, .int .i64 a0_2, .int .i64 a0_3, .int .i64 a0_4, .int .i64 a0_5, .int .i64 a0_6]] w fun e w' => e = .returned (.agg #[.int .i64 r1, .int .i64 r2, .int .i64 r3, .int .i64 r4, .int .i64 r5, .int .i64 r6, .int .i64 r7]) ∧ Below w.heap.size w w' := by
 have hu23 := Try.underlying23
 have hu28 := Try.underlying28
 have HB := Aside0.mk (Below.refl w.heap.size w)
 have H : (some (a0_0, a0_1, a0_2, a0_3, a0_4, a0_5, a0_6)) = some (r1, r2, r3, r4, r5, r6, r7) := h
 clear h
 simp only [Option.some.injEq, Prod.mk.injEq] at H
 obtain ⟨rfl, rfl, rfl, rfl, rfl, rfl, rfl⟩ := H
 go_enter Try.func52, Try.ntmps52
 go_wp2_with (first | ((with_reducible refine gate_dst (N := 1) rfl ?_); refine box_event ?hg (N := 1) ?hd (cs := #[.int .i64 a0_0, .int .i64 a0_1, .int .i64 a0_2, .int .i64 a0_3, .int .i64 a0_4, .int .i64 a0_5, .int .i64 a0_6]) (t := 23) ?hr ?_; (case hd => rfl); (case hg => rfl); (case hr => first | (go_simp; done) | (go_simp; rfl)); intro gb101 hg w2 hbox hb; have n0_ := Aside0.mk (below_step by1 hb); have n1_ := Aside0.mk (hbox); have n2_ := Aside0.mk ((by0 : w.heap.size ≤ gb101)); have n3_ := Aside0.mk ((by0 : w.heap.size ≤ gb101)); clear HB; have HB := n0_; have BK101 := n1_; have GW101 := n2_; have GE101 := n3_; clear n0_ n1_ n2_ n3_; clear hb hbox hg) | ((with_reducible refine gate_dst (N := 2) rfl ?_); refine box_event ?hg (N := 2) ?hd (cs := #[.int .i64 0, .int .i64 0, .int .i64 0, .int .i64 0, .int .i64 0, .int .i64 0, .int .i64 0]) (t := 28) ?hr ?_; (case hd => rfl); (case hg => rfl); (case hr => first | (go_simp; done) | (go_simp; rfl)); intro gb102 hg w3 hbox hb; have n0_ := Aside0.mk (blk_below (g := gb101) (o := .cells #[.int .i64 a0_0, .int .i64 a0_1, .int .i64 a0_2, .int .i64 a0_3, .int .i64 a0_4, .int .i64 a0_5, .int .i64 a0_6] 23 (0, 0)) by115 hb); have n1_ := Aside0.mk (below_step (by repeat (first | (with_reducible first | exact HB.out | apply below_alloc | apply pw_below_drewN | apply below_drew1 | refine below_set ?_ GE101.out) | exact HB.out)) hb); have n2_ := Aside0.mk (hbox); have n3_ := Aside0.mk ((by108 : w.heap.size ≤ gb102)); have n4_ := Aside0.mk ((by108 : w.heap.size ≤ gb102)); have n5_ := Aside0.mk ((by83 : gb101 ≠ gb102)); have n6_ := Aside0.mk ((by84 : gb102 ≠ gb101)); clear BK101; clear HB; have BK101 := n0_; have HB := n1_; have BK102 := n2_; have GW102 := n3_; have GE102 := n4_; have NB101_102 := n5_; have NB102_101 := n6_; clear n0_ n1_ n2_ n3_ n4_ n5_ n6_; clear hb hbox hg) | ((with_reducible refine gate_dst (N := 3) rfl ?_); refine box_event ?hg (N := 3) ?hd (cs := #[.int .i64 0, .int .i64 0, .int .i64 0, .int .i64 0, .int .i64 0, .int .i64 0, .int .i64 0]) (t := 28) ?hr ?_; (case hd => rfl); (case hg => rfl); (case hr => first | (go_simp; done) | (go_simp; rfl)); intro gb103 hg w4 hbox hb; have n0_ := Aside0.mk (blk_below (g := gb101) (o := .cells #[.int .i64 a0_0, .int .i64 a0_1, .int .i64 a0_2, .int .i64 a0_3, .int .i64 a0_4, .int .i64 a0_5, .int .i64 a0_6] 23 (0, 0)) by115 hb); have n1_ := Aside0.mk (blk_below (g := gb102) (o := .cells #[.int .i64 0, .int .i64 0, .int .i64 0, .int .i64 0, .int .i64 0, .int .i64 0, .int .i64 0] 28 (0, 0)) (by (with_reducible repeat (first | refine blk_drewN ?_ _ | refine blk_drew ?_ | refine blk_alloc ?_ _)); exact BK102.out) hb); have n2_ := Aside0.mk (below_step (by repeat (first | (with_reducible first | exact HB.out | apply below_alloc | apply pw_below_drewN | apply below_drew1 | refine below_set ?_ GE101.out | refine below_set ?_ GE102.out) | exact HB.out)) hb); have n3_ := Aside0.mk (hbox); have n4_ := Aside0.mk ((by104 : w.heap.size ≤ gb103)); have n5_ := Aside0.mk ((by104 : w.heap.size ≤ gb103)); have n6_ := Aside0.mk ((by83 : gb101 ≠ gb103)); have n7_ := Aside0.mk ((by84 : gb103 ≠ gb101)); have n8_ := Aside0.mk ((by rw [hg]; exact Nat.ne_of_lt (blk_lt (g := gb102) (o := .cells #[.int .i64 0, .int .i64 0, .int .i64 0, .int .i64 0, .int .i64 0, .int .i64 0, .int .i64 0] 28 (0, 0)) (by (with_reducible repeat (first | refine blk_drewN ?_ _ | refine blk_drew ?_ | refine blk_alloc ?_ _)); exact BK102.out)) : gb102 ≠ gb103)); have n9_ := Aside0.mk ((by rw [hg]; exact Nat.ne_of_gt (blk_lt (g := gb102) (o := .cells #[.int .i64 0, .int .i64 0, .int .i64 0, .int .i64 0, .int .i64 0, .int .i64 0, .int .i64 0] 28 (0, 0)) (by (with_reducible repeat (first | refine blk_drewN ?_ _ | refine blk_drew ?_ | refine blk_alloc ?_ _)); exact BK102.out)) : gb103 ≠ gb102)); clear BK101; clear BK102; clear HB; have BK101 := n0_; have BK102 := n1_; have HB := n2_; have BK103 := n3_; have GW103 := n4_; have GE103 := n5_; have NB101_103 := n6_; have NB103_101 := n7_; have NB102_103 := n8_; have NB103_102 := n9_; clear n0_ n1_ n2_ n3_ n4_ n5_ n6_ n7_ n8_ n9_; clear hb hbox hg; have hnb5 := NB101_102.out; have hnc5 := NB102_101.out; have hnb6 := NB101_103.out; have hnc6 := NB103_101.out; have hcz7_0 := cz BK101.out 0 (.int .i64 a0_0); have hcz7_1 := cz BK101.out 1 (.int .i64 a0_1); have hcz7_2 := cz BK101.out 2 (.int .i64 a0_2); have hcz7_3 := cz BK101.out 3 (.int .i64 a0_3); have hcz7_4 := cz BK101.out 4 (.int .i64 a0_4); have hcz7_5 := cz BK101.out 5 (.int .i64 a0_5); have hcz7_6 := cz BK101.out 6 (.int .i64 a0_6); have hnb8 := NB103_102.out; have hnc8 := NB102_103.out; have hcz9_0 := cz BK103.out 0 (.int .i64 0); have hcz9_1 := cz BK103.out 1 (.int .i64 0); have hcz9_2 := cz BK103.out 2 (.int .i64 0); have hcz9_3 := cz BK103.out 3 (.int .i64 0); have hcz9_4 := cz BK103.out 4 (.int .i64 0); have hcz9_5 := cz BK103.out 5 (.int .i64 0); have hcz9_6 := cz BK103.out 6 (.int .i64 0); have hfz9_0 := blk_frozen BK103.out 0; have hfz9_1 := blk_frozen BK103.out 1; have hfz9_2 := blk_frozen BK103.out 2; have hfz9_3 := blk_frozen BK103.out 3; have hfz9_4 := blk_frozen BK103.out 4; have hfz9_5 := blk_frozen BK103.out 5; have hfz9_6 := blk_frozen BK103.out 6; have hcz10_0 := cz BK102.out 0 (.int .i64 0); have hcz10_1 := cz BK102.out 1 (.int .i64 0); have hcz10_2 := cz BK102.out 2 (.int .i64 0); have hcz10_3 := cz BK102.out 3 (.int .i64 0); have hcz10_4 := cz BK102.out 4 (.int .i64 0); have hcz10_5 := cz BK102.out 5 (.int .i64 0); have hcz10_6 := cz BK102.out 6 (.int .i64 0); have hfz10_0 := blk_frozen BK102.out 0; have hfz10_1 := blk_frozen BK102.out 1; have hfz10_2 := blk_frozen BK102.out 2; have hfz10_3 := blk_frozen BK102.out 3; have hfz10_4 := blk_frozen BK102.out 4; have hfz10_5 := blk_frozen BK102.out 5; have hfz10_6 := blk_frozen BK102.out 6))
 refine bodyPost_ret (results_cell_row rfl _ _ gb102 28 #[.int .i64 a0_0, .int .i64 a0_1, .int .i64 a0_2, .int .i64 a0_3, .int .i64 a0_4, .int .i64 a0_5, .int .i64 a0_6] (0, 0) _ rfl (by (with_reducible repeat (first | refine blk_drewN ?_ _ | refine blk_drew ?_ | refine blk_alloc ?_ _)); refine blk_put (cs := #[.int .i64 a0_0, .int .i64 a0_1, .int .i64 a0_2, .int .i64 a0_3, .int .i64 a0_4, .int .i64 a0_5, .int .i64 0]) ?_ 6 _ rfl; (with_reducible repeat (first | refine blk_drewN ?_ _ | refine blk_drew ?_ | refine blk_alloc ?_ _)); refine blk_put (cs := #[.int .i64 a0_0, .int .i64 a0_1, .int .i64 a0_2, .int .i64 a0_3, .int .i64 a0_4, .int .i64 0, .int .i64 0]) ?_ 5 _ rfl; (with_reducible repeat (first | refine blk_drewN ?_ _ | refine blk_drew ?_ | refine blk_alloc ?_ _)); refine blk_put (cs := #[.int .i64 a0_0, .int .i64 a0_1, .int .i64 a0_2, .int .i64 a0_3, .int .i64 0, .int .i64 0, .int .i64 0]) ?_ 4 _ rfl; (with_reducible repeat (first | refine blk_drewN ?_ _ | refine blk_drew ?_ | refine blk_alloc ?_ _)); refine blk_put (cs := #[.int .i64 a0_0, .int .i64 a0_1, .int .i64 a0_2, .int .i64 0, .int .i64 0, .int .i64 0, .int .i64 0]) ?_ 3 _ rfl; (with_reducible repeat (first | refine blk_drewN ?_ _ | refine blk_drew ?_ | refine blk_alloc ?_ _)); refine blk_put (cs := #[.int .i64 a0_0, .int .i64 a0_1, .int .i64 0, .int .i64 0, .int .i64 0, .int .i64 0, .int .i64 0]) ?_ 2 _ rfl; (with_reducible repeat (first | refine blk_drewN ?_ _ | refine blk_drew ?_ | refine blk_alloc ?_ _)); refine blk_put (cs := #[.int .i64 a0_0, .int .i64 0, .int .i64 0, .int .i64 0, .int .i64 0, .int .i64 0, .int .i64 0]) ?_ 1 _ rfl; (with_reducible repeat (first | refine blk_drewN ?_ _ | refine blk_drew ?_ | refine blk_alloc ?_ _)); refine blk_put (cs := #[.int .i64 0, .int .i64 0, .int .i64 0, .int .i64 0, .int .i64 0, .int .i64 0, .int .i64 0]) ?_ 0 _ rfl; (with_reducible repeat (first | refine blk_drewN ?_ _ | refine blk_drew ?_ | refine blk_alloc ?_ _)); refine blk_far ?_ NB102_103.out _; (with_reducible repeat (first | refine blk_drewN ?_ _ | refine blk_drew ?_ | refine blk_alloc ?_ _)); refine blk_far ?_ NB102_103.out _; (with_reducible repeat (first | refine blk_drewN ?_ _ | refine blk_drew ?_ | refine blk_alloc ?_ _)); refine blk_far ?_ NB102_103.out _; (with_reducible repeat (first | refine blk_drewN ?_ _ | refine blk_drew ?_ | refine blk_alloc ?_ _)); refine blk_far ?_ NB102_103.out _; (with_reducible repeat (first | refine blk_drewN ?_ _ | refine blk_drew ?_ | refine blk_alloc ?_ _)); refine blk_far ?_ NB102_103.out _; (with_reducible repeat (first | refine blk_drewN ?_ _ | refine blk_drew ?_ | refine blk_alloc ?_ _)); refine blk_far ?_ NB102_103.out _; (with_reducible repeat (first | refine blk_drewN ?_ _ | refine blk_drew ?_ | refine blk_alloc ?_ _)); refine blk_far ?_ NB102_103.out _; (with_reducible repeat (first | refine blk_drewN ?_ _ | refine blk_drew ?_ | refine blk_alloc ?_ _)); exact BK102.out) Try.underlying28 rfl by5) rfl ?_
 exact ⟨by first | rfl | (simp [errW_none, errW_some] <;> rfl) | (simp [*, errW_none, errW_some] <;> rfl), by repeat (first | (with_reducible first | exact HB.out | apply below_alloc | apply pw_below_drewN | apply below_drew1 | refine below_set ?_ GE101.out | refine below_set ?_ GE102.out | refine below_set ?_ GE103.out) | exact HB.out)⟩

/-! ### laws_toInstr: function 16 -/
/-- Three blocks of a call: what came in, what is handed back, what is being put together. -/
structure St (w0 w : World) (g1 g2 g3 : Nat) (c1 c2 c3 : Array Value) : Prop where
 h1 : w.heap[g1]? = some (.cells c1 25 (0, 0))
 h2 : w.heap[g2]? = some (.cells c2 30 (0, 0))
 h3 : w.heap[g3]? = some (.cells c3 30 (0, 0))
 hb : Below w0.heap.size w0 w
 n13 : g1 ≠ g3
 n23 : g2 ≠ g3
 n12 : g1 ≠ g2
 m2 : w0.heap.size ≤ g2
 m3 : w0.heap.size ≤ g3
theorem St.below {w0 w w' : World} {g1 g2 g3 : Nat} {c1 c2 c3 : Array Value} (S : St w0 w g1 g2 g3 c1 c2 c3) (h : Below w.heap.size w w') : St w0 w' g1 g2 g3 c1 c2 c3 :=
 ⟨(h.block g1 (blk_lt S.h1)).trans S.h1, (h.block g2 (blk_lt S.h2)).trans S.h2, (h.block g3 (blk_lt S.h3)).trans S.h3, below_then S.hb S.hb.size h, S.n13, S.n23, S.n12, S.m2, S.m3⟩
theorem below_cells {w0 w : World} {g : Nat} (hb : Below w0.heap.size w0 w) (hg : w0.heap.size ≤ g) (off : Nat) (seg : List Value) : Below w0.heap.size w0 (w.setCells g off seg) := by
 obtain ⟨s1, s2, s3, s4⟩ := setCells_same g seg off w
 exact hb.trans ⟨s1, s2, s3, by rw [s4]; exact Nat.le_refl _, fun k hk => setCells_far seg off k (by omega)⟩
theorem st_store {P : Program} {ops : Array Oper} {rest : List Oper} {o : Oper} {a : Act} {Q : Exit → Act → World → Prop} {w0 W : World} {g1 g2 g3 : Nat} {c1 c2 c3 : Array Value} (hN : o.dst = none) (hgd : o.guard = none) (t : TypeId) (p x : Operand) (ho : o.op = .store t p x) (off : Nat) (seg : List Value) (u : Value) (S : St w0 W g1 g2 g3 c1 c2 c3)
  (hp : a.eval p = .pointer (some ⟨g3, off, none⟩)) (hx : a.eval x = u) (hu : u.cells.toList = seg) (ht : (P.info? t).map (·.size) = some seg.length) (hfit : off + seg.length ≤ c3.size) (h1 : ∀ q ∈ seg, q.oneCell' = true)
  (c3' : Array Value) (hc : c3'.toList = c3.toList.take off ++ seg ++ c3.toList.drop (off + seg.length)) (h : ∀ w1, St w0 w1 g1 g2 g3 c1 c2 c3' → wpList P ops Q rest a w1) : wpList P ops Q (o :: rest) a W := by
 obtain ⟨cur', k1, _, k3⟩ := setCells_row seg off W c3 S.h3 hfit
 have e : cur' = c3' := Array.ext' (by rw [k3, hc])
 subst e
 refine wpList_plain hgd fun K hK => ?_
 have hrun := run_store_run (P := P) t u seg S.h3 hu ht hfit h1
 unfold Oper.wp execOp
 simp only [ho, hp, hx, Sem.run_bind, Sem.run_pure, Result.andThen_ok, hrun]
 show K (a.put o.dst undef) _
 rw [hN]
 exact hK a _ (h _ ⟨(setCells_far seg off g1 S.n13).trans S.h1, (setCells_far seg off g2 S.n23).trans S.h2, k1, below_cells S.hb S.m3 off seg, S.n13, S.n23, S.n12, S.m2, S.m3⟩)
theorem st_out {P : Program} {ops : Array Oper} {rest : List Oper} {o : Oper} {a : Act} {Q : Exit → Act → World → Prop} {w0 W : World} {g1 g2 g3 : Nat} {c1 c2 c3 : Array Value} (hN : o.dst = none) (hgd : o.guard = none) (t : TypeId) (p x : Operand) (ho : o.op = .store t p x) (seg : List Value) (u : Value) (S : St w0 W g1 g2 g3 c1 c2 c3)
  (hp : a.eval p = .pointer (some ⟨g2, 0, none⟩)) (hx : a.eval x = u) (hu : u.cells.toList = seg) (ht : (P.info? t).map (·.size) = some seg.length) (hfit : seg.length = c2.size) (h1 : ∀ q ∈ seg, q.oneCell' = true)
  (h : ∀ w1, w1.heap[g2]? = some (.cells seg.toArray 30 (0, 0)) → Below w0.heap.size w0 w1 → wpList P ops Q rest a w1) : wpList P ops Q (o :: rest) a W := by
 obtain ⟨cur', k1, _, k3⟩ := setCells_row seg 0 W c2 S.h2 (by omega)
 have hd : List.drop (0 + seg.length) c2.toList = [] := List.drop_eq_nil_of_le (by rw [Array.length_toList]; omega)
 have e : cur' = seg.toArray := Array.ext' (by rw [k3, List.take_zero, List.nil_append, hd, List.append_nil])
 subst e
 refine wpList_plain hgd fun K hK => ?_
 have hrun := run_store_run (P := P) (o := 0) t u seg S.h2 hu ht (by omega) h1
 unfold Oper.wp execOp
 simp only [ho, hp, hx, Sem.run_bind, Sem.run_pure, Result.andThen_ok, hrun]
 show K (a.put o.dst undef) _
 rw [hN]
 exact hK a _ (h _ k1 (below_cells S.hb S.m2 0 seg))
theorem gate_load {P : Program} {ops : Array Oper} {rest : List Oper} {o : Oper} {a : Act} {Q : Exit → Act → World → Prop} {W : World} {t : TypeId} {p : Operand} (_ : o.op = .load t p) (h : wpList P ops Q (o :: rest) a W) : wpList P ops Q (o :: rest) a W := h
theorem toOperand_eq (a b c d e f g : Int) : laws_toOperand.f a b c d e f g = some (a, b, c, d, e, f, g) := rfl
theorem ones (xs : List Int) : ∀ q ∈ xs.map (Value.int .i64), q.oneCell' = true := by
 intro q hq
 obtain ⟨x, _, rfl⟩ := List.mem_map.1 hq
 rfl
theorem gate_store {P : Program} {ops : Array Oper} {rest : List Oper} {o : Oper} {a : Act} {Q : Exit → Act → World → Prop} {W : World} {t : TypeId} {p x : Operand} (_ : o.op = .store t p x) (h : wpList P ops Q (o :: rest) a W) : wpList P ops Q (o :: rest) a W := h
def laws_toInstr.f (a0_0 : Int) (a0_1 : Int) (a0_2 : Int) (a0_3 : Int) (a0_4 : Int) (a0_5 : Int) (a0_6 : Int) (a0_7 : Int) (a0_8 : Int) (a0_9 : Int) (a0_10 : Int) (a0_11 : Int) (a0_12 : Int) (a0_13 : Int) (a0_14 : Int) (a0_15 : Int) (a0_16 : Int) (a0_17 : Int) (a0_18 : Int) : Option (Int × Int × Int × Int × Int × Int × Int × Int × Int × Int × Int × Int × Int × Int × Int × Int × Int × Int × Int) := some (a0_0, a0_1, a0_2, a0_3, a0_4, a0_5, a0_6, a0_7, a0_8, a0_9, a0_10, a0_11, a0_12, a0_13, a0_14, a0_15, a0_16, a0_17, a0_18)
set_option maxHeartbeats 8000000 in
set_option maxRecDepth 100000 in
theorem laws_toInstr.calls (a0_0 : Int) (a0_1 : Int) (a0_2 : Int) (a0_3 : Int) (a0_4 : Int) (a0_5 : Int) (a0_6 : Int) (a0_7 : Int) (a0_8 : Int) (a0_9 : Int) (a0_10 : Int) (a0_11 : Int) (a0_12 : Int) (a0_13 : Int) (a0_14 : Int) (a0_15 : Int) (a0_16 : Int) (a0_17 : Int) (a0_18 : Int) (r1 : Int) (r2 : Int) (r3 : Int) (r4 : Int) (r5 : Int) (r6 : Int) (r7 : Int) (r8 : Int) (r9 : Int) (r10 : Int) (r11 : Int) (r12 : Int) (r13 : Int) (r14 : Int) (r15 : Int) (r16 : Int) (r17 : Int) (r18 : Int) (r19 : Int) (w : World) (h : laws_toInstr.f a0_0 a0_1 a0_2 a0_3 a0_4 a0_5 a0_6 a0_7 a0_8 a0_9 a0_10 a0_11 a0_12 a0_13 a0_14 a0_15 a0_16 a0_17 a0_18 = some (r1, r2, r3, r4, r5, r6, r7, r8, r9, r10, r11, r12, r13, r14, r15, r16, r17, r18, r19)) :
  Calls Try.prog 16 #[.agg #[.int .i64 a0_0, .int .i64 a0_1, .int .i64 a0_2, .int .i64 a0_3, .int .i64 a0_4, .int .i64 a0_5, .int .i64 a0_6, .int .i64 a0_7, .int .i64 a0_8, .int .i64 a0_9, .int .i64 a0_10, .int .i64 a0_11, .int .i64 a0_12, .int .i64 a0_13, .int .i64 a0_14, .int .i64 a0_15, .int .i64 a0_16, .int .i64 a0_17, .int .i64 a0_18]] w fun e w' => e = .returned (.agg #[.int .i64 r1, .int .i64 r2, .int .i64 r3, .int .i64 r4, .int .i64 r5, .int .i64 r6, .int .i64 r7, .int .i64 r8, .int .i64 r9, .int .i64 r10, .int .i64 r11, .int .i64 r12, .int .i64 r13, .int .i64 r14, .int .i64 r15, .int .i64 r16, .int .i64 r17, .int .i64 r18, .int .i64 r19]) ∧ Below w.heap.size w w' := by
 unfold laws_toInstr.f at h
 simp only [Option.some.injEq, Prod.mk.injEq] at h
 obtain ⟨rfl, rfl, rfl, rfl, rfl, rfl, rfl, rfl, rfl, rfl, rfl, rfl, rfl, rfl, rfl, rfl, rfl, rfl, rfl⟩ := h
 have HB := Aside0.mk (Below.refl w.heap.size w)
 go_enter Try.func16, Try.ntmps16
 go_wp2_with (first | ((with_reducible refine gate_dst (N := 1) rfl ?_); refine box_event ?hg (N := 1) ?hd (cs := #[.int .i64 a0_0, .int .i64 a0_1, .int .i64 a0_2, .int .i64 a0_3, .int .i64 a0_4, .int .i64 a0_5, .int .i64 a0_6, .int .i64 a0_7, .int .i64 a0_8, .int .i64 a0_9, .int .i64 a0_10, .int .i64 a0_11, .int .i64 a0_12, .int .i64 a0_13, .int .i64 a0_14, .int .i64 a0_15, .int .i64 a0_16, .int .i64 a0_17, .int .i64 a0_18]) (t := 25) ?hr ?_; (case hd => rfl); (case hg => rfl); (case hr => first | (go_simp; done) | (go_simp; rfl)); intro g1 hg w1 hbox hb; have B1 := Aside0.mk hbox; have G1 := Aside0.mk (Nat.le_of_eq hg.symm); have n0_ := Aside0.mk (below_step by1 hb); clear HB hbox hb hg; have HB := n0_; clear n0_) | ((with_reducible refine gate_dst (N := 2) rfl ?_); refine box_event ?hg (N := 2) ?hd (cs := #[.int .i64 0, .int .i64 0, .int .i64 0, .int .i64 0, .int .i64 0, .int .i64 0, .int .i64 0, .int .i64 0, .int .i64 0, .int .i64 0, .int .i64 0, .int .i64 0, .int .i64 0, .int .i64 0, .int .i64 0, .int .i64 0, .int .i64 0, .int .i64 0, .int .i64 0]) (t := 30) ?hr ?_; (case hd => rfl); (case hg => rfl); (case hr => first | (go_simp; done) | (go_simp; rfl)); intro g2 hg w1 hbox hb; have B1' := Aside0.mk ((hb.block g1 (blk_lt B1.out)).trans B1.out); have N12 := Aside0.mk (show g1 ≠ g2 by have := blk_lt B1.out; omega); have B2 := Aside0.mk hbox; have G2 := Aside0.mk (show w.heap.size ≤ g2 by rw [hg]; exact below_size by1); have n0_ := Aside0.mk (below_step by1 hb); clear HB hbox hb hg B1; have HB := n0_; have B1 := B1'; clear n0_ B1') | ((with_reducible refine gate_dst (N := 3) rfl ?_); refine box_event ?hg (N := 3) ?hd (cs := #[.int .i64 0, .int .i64 0, .int .i64 0, .int .i64 0, .int .i64 0, .int .i64 0, .int .i64 0, .int .i64 0, .int .i64 0, .int .i64 0, .int .i64 0, .int .i64 0, .int .i64 0, .int .i64 0, .int .i64 0, .int .i64 0, .int .i64 0, .int .i64 0, .int .i64 0]) (t := 30) ?hr ?_; (case hd => rfl); (case hg => rfl); (case hr => first | (go_simp; done) | (go_simp; rfl)); intro g3 hg w1 hbox hb; have S := Aside0.mk (St.mk (w0 := w) ((hb.block g1 (blk_lt B1.out)).trans B1.out) ((hb.block g2 (blk_lt B2.out)).trans B2.out) hbox (below_step by1 hb) (by have := blk_lt B1.out; omega) (by have := blk_lt B2.out; omega) N12.out G2.out (by rw [hg]; exact below_size by1)); clear HB hbox hb hg B1 B2 N12 G2 G1; have hc0 : w1.cell? ⟨g1, 0, none⟩ = some (.int .i64 a0_0) := (blk_cell S.out.h1 0).trans rfl) | ((with_reducible refine gate_store (p := .tmp 6) (x := .tmp 5) rfl ?_); refine st_store rfl rfl 3 (.tmp 6) (.tmp 5) rfl 0 [.int .i64 a0_0] (.int .i64 a0_0) S.out rfl rfl rfl by5 (by simp) (ones [a0_0]) (#[.int .i64 a0_0, .int .i64 0, .int .i64 0, .int .i64 0, .int .i64 0, .int .i64 0, .int .i64 0, .int .i64 0, .int .i64 0, .int .i64 0, .int .i64 0, .int .i64 0, .int .i64 0, .int .i64 0, .int .i64 0, .int .i64 0, .int .i64 0, .int .i64 0, .int .i64 0]) rfl ?_; clear hc0; clear S; intro w1 S1; have S := Aside0.mk S1; clear S1; have hc1 : w1.cell? ⟨g1, 1, none⟩ = some (.int .i64 a0_1) := (blk_cell S.out.h1 1).trans rfl) | ((with_reducible refine gate_store (p := .tmp 9) (x := .tmp 8) rfl ?_); refine st_store rfl rfl 3 (.tmp 9) (.tmp 8) rfl 1 [.int .i64 a0_1] (.int .i64 a0_1) S.out rfl rfl rfl by5 (by simp) (ones [a0_1]) (#[.int .i64 a0_0, .int .i64 a0_1, .int .i64 0, .int .i64 0, .int .i64 0, .int .i64 0, .int .i64 0, .int .i64 0, .int .i64 0, .int .i64 0, .int .i64 0, .int .i64 0, .int .i64 0, .int .i64 0, .int .i64 0, .int .i64 0, .int .i64 0, .int .i64 0, .int .i64 0]) rfl ?_; clear hc1; clear S; intro w1 S1; have S := Aside0.mk S1; clear S1; have hc2 : w1.cell? ⟨g1, 2, none⟩ = some (.int .i64 a0_2) := (blk_cell S.out.h1 2).trans rfl) | ((with_reducible refine gate_store (p := .tmp 12) (x := .tmp 11) rfl ?_); refine st_store rfl rfl 3 (.tmp 12) (.tmp 11) rfl 2 [.int .i64 a0_2] (.int .i64 a0_2) S.out rfl rfl rfl by5 (by simp) (ones [a0_2]) (#[.int .i64 a0_0, .int .i64 a0_1, .int .i64 a0_2, .int .i64 0, .int .i64 0, .int .i64 0, .int .i64 0, .int .i64 0, .int .i64 0, .int .i64 0, .int .i64 0, .int .i64 0, .int .i64 0, .int .i64 0, .int .i64 0, .int .i64 0, .int .i64 0, .int .i64 0, .int .i64 0]) rfl ?_; clear hc2; clear S; intro w1 S1; have S := Aside0.mk S1; clear S1; have hc3 : w1.cell? ⟨g1, 3, none⟩ = some (.int .i64 a0_3) := (blk_cell S.out.h1 3).trans rfl) | ((with_reducible refine gate_store (p := .tmp 15) (x := .tmp 14) rfl ?_); refine st_store rfl rfl 3 (.tmp 15) (.tmp 14) rfl 3 [.int .i64 a0_3] (.int .i64 a0_3) S.out rfl rfl rfl by5 (by simp) (ones [a0_3]) (#[.int .i64 a0_0, .int .i64 a0_1, .int .i64 a0_2, .int .i64 a0_3, .int .i64 0, .int .i64 0, .int .i64 0, .int .i64 0, .int .i64 0, .int .i64 0, .int .i64 0, .int .i64 0, .int .i64 0, .int .i64 0, .int .i64 0, .int .i64 0, .int .i64 0, .int .i64 0, .int .i64 0]) rfl ?_; clear hc3; clear S; intro w1 S1; have S := Aside0.mk S1; clear S1; have hc4 : w1.cell? ⟨g1, 4, none⟩ = some (.int .i64 a0_4) := (blk_cell S.out.h1 4).trans rfl; have hc5 : w1.cell? ⟨g1, 5, none⟩ = some (.int .i64 a0_5) := (blk_cell S.out.h1 5).trans rfl; have hc6 : w1.cell? ⟨g1, 6, none⟩ = some (.int .i64 a0_6) := (blk_cell S.out.h1 6).trans rfl; have hc7 : w1.cell? ⟨g1, 7, none⟩ = some (.int .i64 a0_7) := (blk_cell S.out.h1 7).trans rfl; have hc8 : w1.cell? ⟨g1, 8, none⟩ = some (.int .i64 a0_8) := (blk_cell S.out.h1 8).trans rfl; have hc9 : w1.cell? ⟨g1, 9, none⟩ = some (.int .i64 a0_9) := (blk_cell S.out.h1 9).trans rfl; have hc10 : w1.cell? ⟨g1, 10, none⟩ = some (.int .i64 a0_10) := (blk_cell S.out.h1 10).trans rfl) | ((with_reducible refine gate_store (p := .tmp 19) (x := .tmp 18) rfl ?_); refine st_store rfl rfl 28 (.tmp 19) (.tmp 18) rfl 4 [.int .i64 a0_4, .int .i64 a0_5, .int .i64 a0_6, .int .i64 a0_7, .int .i64 a0_8, .int .i64 a0_9, .int .i64 a0_10] (.agg #[.int .i64 a0_4, .int .i64 a0_5, .int .i64 a0_6, .int .i64 a0_7, .int .i64 a0_8, .int .i64 a0_9, .int .i64 a0_10]) S.out rfl rfl rfl by5 (by simp) (ones [a0_4, a0_5, a0_6, a0_7, a0_8, a0_9, a0_10]) (#[.int .i64 a0_0, .int .i64 a0_1, .int .i64 a0_2, .int .i64 a0_3, .int .i64 a0_4, .int .i64 a0_5, .int .i64 a0_6, .int .i64 a0_7, .int .i64 a0_8, .int .i64 a0_9, .int .i64 a0_10, .int .i64 0, .int .i64 0, .int .i64 0, .int .i64 0, .int .i64 0, .int .i64 0, .int .i64 0, .int .i64 0]) rfl ?_; clear S; intro w1 S1; have S := Aside0.mk S1; clear S1; have hc11 : w1.cell? ⟨g1, 11, none⟩ = some (.int .i64 a0_11) := (blk_cell S.out.h1 11).trans rfl; have hc12 : w1.cell? ⟨g1, 12, none⟩ = some (.int .i64 a0_12) := (blk_cell S.out.h1 12).trans rfl; have hc13 : w1.cell? ⟨g1, 13, none⟩ = some (.int .i64 a0_13) := (blk_cell S.out.h1 13).trans rfl; have hc14 : w1.cell? ⟨g1, 14, none⟩ = some (.int .i64 a0_14) := (blk_cell S.out.h1 14).trans rfl; have hc15 : w1.cell? ⟨g1, 15, none⟩ = some (.int .i64 a0_15) := (blk_cell S.out.h1 15).trans rfl; have hc16 : w1.cell? ⟨g1, 16, none⟩ = some (.int .i64 a0_16) := (blk_cell S.out.h1 16).trans rfl; have hc17 : w1.cell? ⟨g1, 17, none⟩ = some (.int .i64 a0_17) := (blk_cell S.out.h1 17).trans rfl) | ((with_reducible refine gate_store (p := .tmp 23) (x := .tmp 22) rfl ?_); refine st_store rfl rfl 28 (.tmp 23) (.tmp 22) rfl 11 [.int .i64 a0_11, .int .i64 a0_12, .int .i64 a0_13, .int .i64 a0_14, .int .i64 a0_15, .int .i64 a0_16, .int .i64 a0_17] (.agg #[.int .i64 a0_11, .int .i64 a0_12, .int .i64 a0_13, .int .i64 a0_14, .int .i64 a0_15, .int .i64 a0_16, .int .i64 a0_17]) S.out rfl rfl rfl by5 (by simp) (ones [a0_11, a0_12, a0_13, a0_14, a0_15, a0_16, a0_17]) (#[.int .i64 a0_0, .int .i64 a0_1, .int .i64 a0_2, .int .i64 a0_3, .int .i64 a0_4, .int .i64 a0_5, .int .i64 a0_6, .int .i64 a0_7, .int .i64 a0_8, .int .i64 a0_9, .int .i64 a0_10, .int .i64 a0_11, .int .i64 a0_12, .int .i64 a0_13, .int .i64 a0_14, .int .i64 a0_15, .int .i64 a0_16, .int .i64 a0_17, .int .i64 0]) rfl ?_; clear S; intro w1 S1; have S := Aside0.mk S1; clear S1; have hc18 : w1.cell? ⟨g1, 18, none⟩ = some (.int .i64 a0_18) := (blk_cell S.out.h1 18).trans rfl) | ((with_reducible refine gate_store (p := .tmp 26) (x := .tmp 25) rfl ?_); refine st_store rfl rfl 3 (.tmp 26) (.tmp 25) rfl 18 [.int .i64 a0_18] (.int .i64 a0_18) S.out rfl rfl rfl by5 (by simp) (ones [a0_18]) (#[.int .i64 a0_0, .int .i64 a0_1, .int .i64 a0_2, .int .i64 a0_3, .int .i64 a0_4, .int .i64 a0_5, .int .i64 a0_6, .int .i64 a0_7, .int .i64 a0_8, .int .i64 a0_9, .int .i64 a0_10, .int .i64 a0_11, .int .i64 a0_12, .int .i64 a0_13, .int .i64 a0_14, .int .i64 a0_15, .int .i64 a0_16, .int .i64 a0_17, .int .i64 a0_18]) rfl ?_; clear hc18; clear S; intro w1 S1; have S := Aside0.mk S1; clear S1; skip) | (go_at_call 52; (with_reducible refine (laws_toOperand.calls a0_4 a0_5 a0_6 a0_7 a0_8 a0_9 a0_10 _ _ _ _ _ _ _ _ (toOperand_eq _ _ _ _ _ _ _)).mono ?_); rintro e w1 ⟨rfl, hb⟩; clear hc4 hc5 hc6 hc7 hc8 hc9 hc10; have S1 := Aside0.mk (S.out.below hb); clear S hb; have S := S1; clear S1) | (go_at_call 52; (with_reducible refine (laws_toOperand.calls a0_11 a0_12 a0_13 a0_14 a0_15 a0_16 a0_17 _ _ _ _ _ _ _ _ (toOperand_eq _ _ _ _ _ _ _)).mono ?_); rintro e w1 ⟨rfl, hb⟩; clear hc11 hc12 hc13 hc14 hc15 hc16 hc17; have S1 := Aside0.mk (S.out.below hb); clear S hb; have S := S1; clear S1) | ((with_reducible refine gate_load (t := 30) (p := .tmp 3) rfl ?_); refine wpList_load_row rfl 30 (.tmp 3) rfl g3 rfl 30 #[.int .i64 a0_0, .int .i64 a0_1, .int .i64 a0_2, .int .i64 a0_3, .int .i64 a0_4, .int .i64 a0_5, .int .i64 a0_6, .int .i64 a0_7, .int .i64 a0_8, .int .i64 a0_9, .int .i64 a0_10, .int .i64 a0_11, .int .i64 a0_12, .int .i64 a0_13, .int .i64 a0_14, .int .i64 a0_15, .int .i64 a0_16, .int .i64 a0_17, .int .i64 a0_18] (0, 0) _ S.out.h3 Try.underlying30 rfl by5 ?_) | ((with_reducible refine gate_store (p := .tmp 2) (x := .tmp 27) rfl ?_); refine st_out rfl rfl 30 (.tmp 2) (.tmp 27) rfl [.int .i64 a0_0, .int .i64 a0_1, .int .i64 a0_2, .int .i64 a0_3, .int .i64 a0_4, .int .i64 a0_5, .int .i64 a0_6, .int .i64 a0_7, .int .i64 a0_8, .int .i64 a0_9, .int .i64 a0_10, .int .i64 a0_11, .int .i64 a0_12, .int .i64 a0_13, .int .i64 a0_14, .int .i64 a0_15, .int .i64 a0_16, .int .i64 a0_17, .int .i64 a0_18] (.agg #[.int .i64 a0_0, .int .i64 a0_1, .int .i64 a0_2, .int .i64 a0_3, .int .i64 a0_4, .int .i64 a0_5, .int .i64 a0_6, .int .i64 a0_7, .int .i64 a0_8, .int .i64 a0_9, .int .i64 a0_10, .int .i64 a0_11, .int .i64 a0_12, .int .i64 a0_13, .int .i64 a0_14, .int .i64 a0_15, .int .i64 a0_16, .int .i64 a0_17, .int .i64 a0_18]) S.out rfl rfl rfl by5 rfl (ones [a0_0, a0_1, a0_2, a0_3, a0_4, a0_5, a0_6, a0_7, a0_8, a0_9, a0_10, a0_11, a0_12, a0_13, a0_14, a0_15, a0_16, a0_17, a0_18]) ?_; clear S; intro w1 k1 HB1))
 refine bodyPost_ret (results_cell_row rfl _ _ g2 30 #[.int .i64 a0_0, .int .i64 a0_1, .int .i64 a0_2, .int .i64 a0_3, .int .i64 a0_4, .int .i64 a0_5, .int .i64 a0_6, .int .i64 a0_7, .int .i64 a0_8, .int .i64 a0_9, .int .i64 a0_10, .int .i64 a0_11, .int .i64 a0_12, .int .i64 a0_13, .int .i64 a0_14, .int .i64 a0_15, .int .i64 a0_16, .int .i64 a0_17, .int .i64 a0_18] (0, 0) _ rfl k1 Try.underlying30 rfl by5) rfl ?_
 exact ⟨rfl, HB1⟩

/-! ### spec_l01In: function 56 -/
def spec_l01In.f (a0 : Int) (a1 : Int) (a2 : Int) : Option (Bool) := if a0 ≥ a1 then (some (decide (a0 ≤ a2))) else (some false)
set_option maxHeartbeats 8000000 in
set_option maxRecDepth 100000 in
theorem spec_l01In.calls (a0 : Int) (a1 : Int) (a2 : Int) (r : Bool) (w : World) (h : spec_l01In.f a0 a1 a2 = some r) :
  Calls Try.prog 56 #[.int .i64 a0, .int .i64 a1, .int .i64 a2] w fun e w' => e = .returned (.bool r) ∧ Drawn0 w w' := by
 have H : (if a0 ≥ a1 then (some (decide (a0 ≤ a2))) else (some false)) = some r := h
 clear h
 by_cases c4 : a0 ≥ a1
 ·rw [if_pos c4] at H
  have c4b0 : decide (a1 ≤ a0) = true := decide_eq_true c4
  clear c4
  obtain rfl := Option.some.inj H
  go_enter Try.func56, Try.ntmps56
  go_wp2
  go_ret
  exact ⟨by first | rfl | (simp; done) | (simp [*]; done), by repeat (first | exact Drawn0.refl _ | apply Drawn0.step)⟩
 ·rw [if_neg c4] at H
  have c4b0 : decide (a1 ≤ a0) = false := decide_eq_false c4
  clear c4
  obtain rfl := Option.some.inj H
  go_enter Try.func56, Try.ntmps56
  go_wp2
  go_ret
  exact ⟨by first | rfl | (simp; done) | (simp [*]; done), by repeat (first | exact Drawn0.refl _ | apply Drawn0.step)⟩

/-! ### spec_l03Op: function 95 -/
def spec_l03Op.f (a0 : Int) : Option (Bool) := (spec_l01In.f a0 1 44).bind fun t104 => (some t104)
set_option maxHeartbeats 8000000 in
set_option maxRecDepth 100000 in
theorem spec_l03Op.calls (a0 : Int) (r : Bool) (w : World) (h : spec_l03Op.f a0 = some r) :
  Calls Try.prog 95 #[.int .i64 a0] w fun e w' => e = .returned (.bool r) ∧ Drawn0 w w' := by
 have H : ((spec_l01In.f a0 1 44).bind fun t104 => (some t104)) = some r := h
 clear h
 replace H := Option.bind_eq_some_iff.mp H
 obtain ⟨t104, A20, H⟩ := H
 replace H : (some t104) = some r := H
 have A2 := Aside0.mk A20
 clear A20
 obtain rfl := Option.some.inj H
 go_enter Try.func95, Try.ntmps95
 go_wp2_with (first | ((with_reducible refine gate_callee (f := 56) rfl ?_); refine goesL_ (some 4) rfl rfl Try.func56 by5 rfl #[.int .i64 a0, .int .i64 1, .int .i64 44] rfl by2 ?_; (with_reducible refine (spec_l01In.calls a0 1 44 t104 _ A2.out).mono ?_); rintro e w' ⟨rfl, ⟨nd, rfl⟩⟩; refine ⟨_, rfl, ?_⟩))
 go_ret
 exact ⟨by first | rfl | (simp; done) | (simp [*]; done), by repeat (first | exact Drawn0.refl _ | apply Drawn0.step)⟩

/-! ### spec_l01Bit: function 183 -/
def spec_l01Bit.f (a0 : Int) (a1 : Int) : Option (Int) := if 0 ≤ (IntKind.u64.wrap (a1)) then (if (Int.tmod (shr .u64 (IntKind.u64.wrap (a0)) (IntKind.u64.wrap (a1))) 2) = 1 then (some 1) else (some 0)) else (none)
theorem spec_l01Bit.e0 {p : Prop} (h : p := by
 obtain rfl := Option.some.inj H
 go_enter Try.func183, Try.ntmps183
 go_wp2
 go_ret
 exact ⟨by first | rfl | (simp; done) | (simp only [← hji3, ← hji5] <;> (first | rfl | simp)) | (simp [*]; done), by repeat (first | exact Drawn0.refl _ | apply Drawn0.step)⟩) : p := h
set_option maxHeartbeats 8000000 in
set_option maxRecDepth 100000 in
theorem spec_l01Bit.calls (a0 : Int) (a1 : Int) (r : Int) (w : World) (h : spec_l01Bit.f a0 a1 = some r) :
  Calls Try.prog 183 #[.int .i64 a0, .int .i64 a1] w fun e w' => e = .returned (.int .i64 r) ∧ Drawn0 w w' := by
 have H : (if 0 ≤ (IntKind.u64.wrap (a1)) then (if (Int.tmod (shr .u64 (IntKind.u64.wrap (a0)) (IntKind.u64.wrap (a1))) 2) = 1 then (some 1) else (some 0)) else (none)) = some r := h
 clear h
 obtain ⟨ji3, hji3⟩ : ∃ j_ : Int, (IntKind.u64.wrap (a1)) = j_ := ⟨_, rfl⟩
 replace H : (if 0 ≤ (ji3) then (if (Int.tmod (shr .u64 (IntKind.u64.wrap (a0)) (ji3)) 2) = 1 then (some 1) else (some 0)) else (none)) = some r := by first | (rw [hji3] at H; exact H) | (simp only [hji3] at H ⊢; exact H)
 by_cases c4 : 0 ≤ (ji3)
 ·rw [if_pos c4] at H
  have c4b0 := eq_true c4
  have c4b1 : decide (0 ≤ (ji3)) = true := decide_eq_true c4
  clear c4
  obtain ⟨ji5, hji5⟩ : ∃ j_ : Int, (shr .u64 (IntKind.u64.wrap (a0)) (ji3)) = j_ := ⟨_, rfl⟩
  replace H : (if (Int.tmod (ji5) 2) = 1 then (some 1) else (some 0)) = some r := by first | (rw [hji5] at H; exact H) | (simp only [hji5] at H ⊢; exact H)
  have hji5_ : ((IntKind.u64.wrap (a0)) / 2 ^ min (ji3).toNat 64) = ji5 := hji5
  have hji5z : (ji3) ≤ 64 → ((IntKind.u64.wrap (a0)) / 2 ^ (ji3).toNat) = ji5 := shr_small hji5
  by_cases c6 : (Int.tmod (ji5) 2) = 1
  ·rw [if_pos c6] at H
   have c6b0 : ((Int.tmod (ji5) 2) == 1) = true := beq_iff_eq.mpr c6
   have c6b1 : ((Int.tmod (ji5) 2) != 1) = false := bne_eq_false_iff_eq.mpr c6
   clear c6
   exact spec_l01Bit.e0
  ·rw [if_neg c6] at H
   have c6b0 : ((Int.tmod (ji5) 2) == 1) = false := beq_eq_false_iff_ne.mpr c6
   have c6b1 : ((Int.tmod (ji5) 2) != 1) = true := bne_iff_ne.mpr c6
   exact spec_l01Bit.e0
 ·rw [if_neg c4] at H
  exact absurd H (by simp)

/-! ### spec_l01Sign: function 160 -/
def spec_l01Sign.l0 : Nat → Int → Int → Int → Int → Option (Int)
 | 0, _, _, _, _ => none
 | k + 1, x0, x1, x5, x6 => if x6 ≥ 0 then ((spec_l01Bit.f x0 (mn x6 (wrap64 ((wrap64 (8 * x1)) - 1)))).bind fun t105 => (spec_l01Sign.l0 k x0 x1 (IntKind.u64.wrap ((IntKind.u64.wrap (2 * x5)) + (IntKind.u64.wrap (t105)))) (wrap64 (x6 - 1)))) else (some (wrap64 (x5)))
def spec_l01Sign.f (k : Nat) (a0 : Int) (a1 : Int) : Option (Int) := spec_l01Sign.l0 k a0 a1 0 63
theorem spec_l01Sign.mono_l : ∀ k, (∀ y0 y1 y2 y3, LeO (spec_l01Sign.l0 k y0 y1 y2 y3) (spec_l01Sign.l0 (k + 1) y0 y1 y2 y3))
 | 0 => fun _ _ _ _ r h => by simp [spec_l01Sign.l0] at h
 | k + 1 => by
  have ih0 := spec_l01Sign.mono_l k
  ·intro y0 y1 y2 y3
   unfold spec_l01Sign.l0
   repeat' first
   | (with_reducible exact ih0 _ _ _ _)
   | (with_reducible exact LeO.refl _)
   | (with_reducible exact LeO.none _)
   | (with_reducible refine LeO.ite ?_ ?_)
   | (with_reducible refine LeO.bind ?_ (fun _ => ?_))
   | refine LeO.ite ?_ ?_
   | refine LeO.bind ?_ (fun _ => ?_)
theorem spec_l01Sign.mono : ∀ a0 a1 k, LeO (spec_l01Sign.f k a0 a1) (spec_l01Sign.f (k + 1) a0 a1) := by
 intro a0 a1 k
 have ih0 := spec_l01Sign.mono_l k
 unfold spec_l01Sign.f
 repeat' first
   | (with_reducible exact ih0 _ _ _ _)
   | (with_reducible exact LeO.refl _)
   | (with_reducible exact LeO.none _)
   | (with_reducible refine LeO.ite ?_ ?_)
   | (with_reducible refine LeO.bind ?_ (fun _ => ?_))
   | refine LeO.ite ?_ ?_
   | refine LeO.bind ?_ (fun _ => ?_)
set_option maxHeartbeats 8000000 in
set_option maxRecDepth 100000 in
theorem spec_l01Sign.calls (k : Nat) (a0 : Int) (a1 : Int) (r : Int) (w : World) (h : spec_l01Sign.f k a0 a1 = some r) :
  Calls Try.prog 160 #[.int .i64 a0, .int .i64 a1] w fun e w' => e = .returned (.int .i64 r) ∧ Below w.heap.size w w' := by
 have HB := Aside0.mk (Below.refl w.heap.size w)
 have H : (spec_l01Sign.l0 k a0 a1 0 63) = some r := h
 clear h
 have H' := Aside0.mk H
 clear H
 go_enter Try.func160, Try.ntmps160
 go_wp2
 go_loopg [5, 6] k (fun kq v5 v6 w' => ∃ (x5_1 : Int) (x6_1 : Int), v5 = .int .u64 x5_1 ∧ v6 = .int .i64 x6_1 ∧ Aside0 (spec_l01Sign.l0 kq a0 a1 x5_1 x6_1 = some r) ∧ Aside0 (kq ≤ k) ∧ Aside0 (Below w.heap.size w w'))
 case atStart => exact ⟨(0), (63), by11, by11, H', ⟨Nat.le_refl _⟩, ⟨by repeat (first | (with_reducible first | exact HB.out | apply below_alloc | apply pw_below_drewN | apply below_drew1) | exact HB.out)⟩⟩
 case round =>
  clear H'
  (try clear c1)
  obtain ⟨x5_1, x6_1, rfl, rfl, HA, HK1, HB⟩ := hrel
  cases gk with
  | zero => exact absurd HA.out (by simp [spec_l01Sign.l0])
  | succ k1 =>
   have H := HA.out
   clear HA
   simp only [spec_l01Sign.l0] at H
   by_cases c3 : x6_1 ≥ 0
   ·rw [if_pos c3] at H
    have c3b0 : decide (0 ≤ x6_1) = true := decide_eq_true c3
    clear c3
    obtain ⟨ji4, hji4⟩ : ∃ j_ : Int, (mn x6_1 (wrap64 ((wrap64 (8 * a1)) - 1))) = j_ := ⟨_, rfl⟩
    replace H : ((spec_l01Bit.f a0 (ji4)).bind fun t105 => (spec_l01Sign.l0 k1 a0 a1 (IntKind.u64.wrap ((IntKind.u64.wrap (2 * x5_1)) + (IntKind.u64.wrap (t105)))) (wrap64 (x6_1 - 1)))) = some r := by first | (rw [hji4] at H; exact H) | (simp only [hji4] at H ⊢; exact H)
    have hji4_ : (if (wrap64 ((wrap64 (8 * a1)) - 1)) < x6_1 then (wrap64 ((wrap64 (8 * a1)) - 1)) else x6_1) = ji4 := hji4
    replace H := Option.bind_eq_some_iff.mp H
    obtain ⟨t105, A50, H⟩ := H
    replace H : (spec_l01Sign.l0 k1 a0 a1 (IntKind.u64.wrap ((IntKind.u64.wrap (2 * x5_1)) + (IntKind.u64.wrap (t105)))) (wrap64 (x6_1 - 1))) = some r := H
    have A5 := Aside0.mk A50
    clear A50
    have H' := Aside0.mk H
    clear H
    go_wp2_with (first | ((with_reducible refine gate_callee (f := 183) rfl ?_); refine goesL_ (some 19) rfl rfl Try.func183 by5 rfl #[.int .i64 a0, .int .i64 ji4] rfl (by (try simp only [List.map_toArray, List.map_cons, List.map_nil]); first | done | (simp only [hji4]; rfl) | rfl | (simp only [List.length_drop, List.length_take]; rfl)) ?_; (with_reducible refine (spec_l01Bit.calls a0 ji4 t105 _ A5.out).mono ?_); rintro e w' ⟨rfl, ⟨nd, rfl⟩⟩; refine ⟨_, rfl, ?_⟩))
    go_roundg k1
    case measure => have := HK1.out; omega
    case rel => exact ⟨(IntKind.u64.wrap ((IntKind.u64.wrap (2 * x5_1)) + (IntKind.u64.wrap (t105)))), (wrap64 (x6_1 - 1)), by11, by11, H', ⟨by have := HK1.out; omega⟩, ⟨by repeat (first | (with_reducible first | exact HB.out | apply below_alloc | apply pw_below_drewN | apply below_drew1) | exact HB.out)⟩⟩
   ·rw [if_neg c3] at H
    have c3b0 : decide (0 ≤ x6_1) = false := decide_eq_false c3
    clear c3
    obtain rfl := Option.some.inj H
    go_wp2
    go_ret
    exact ⟨by first | rfl | (simp [errW_none, errW_some] <;> rfl) | (simp [*, errW_none, errW_some] <;> rfl), by repeat (first | (with_reducible first | exact HB.out | apply below_alloc | apply pw_below_drewN | apply below_drew1) | exact HB.out)⟩

/-! ### spec_l05Fits: function 110 -/
def spec_l05Fits.f (k : Nat) (a0 : Int) (a1 : Int) : Option (Bool) := (spec_l01Sign.f k a0 (mn a1 4)).bind fun t106 => (some (t106 == a0))
theorem spec_l05Fits.mono : ∀ a0 a1 k, LeO (spec_l05Fits.f k a0 a1) (spec_l05Fits.f (k + 1) a0 a1) := by
 intro a0 a1 k
 unfold spec_l05Fits.f
 repeat' first
   | (with_reducible exact spec_l01Sign.mono _ _ _)
   | (with_reducible exact LeO.refl _)
   | (with_reducible exact LeO.none _)
   | (with_reducible refine LeO.ite ?_ ?_)
   | (with_reducible refine LeO.bind ?_ (fun _ => ?_))
   | refine LeO.ite ?_ ?_
   | refine LeO.bind ?_ (fun _ => ?_)
set_option maxHeartbeats 8000000 in
set_option maxRecDepth 100000 in
theorem spec_l05Fits.calls (k : Nat) (a0 : Int) (a1 : Int) (r : Bool) (w : World) (h : spec_l05Fits.f k a0 a1 = some r) :
  Calls Try.prog 110 #[.int .i64 a0, .int .i64 a1] w fun e w' => e = .returned (.bool r) ∧ Below w.heap.size w w' := by
 have HB := Aside0.mk (Below.refl w.heap.size w)
 have H : ((spec_l01Sign.f k a0 (mn a1 4)).bind fun t106 => (some (t106 == a0))) = some r := h
 clear h
 obtain ⟨ji3, hji3⟩ : ∃ j_ : Int, (mn a1 4) = j_ := ⟨_, rfl⟩
 replace H : ((spec_l01Sign.f k a0 (ji3)).bind fun t106 => (some (t106 == a0))) = some r := by first | (rw [hji3] at H; exact H) | (simp only [hji3] at H ⊢; exact H)
 (try (have hji3h : ji3 ≤ 4 := by (rw [← hji3]; unfold mn; (repeat' split) <;> omega)))
 (try (have hji3g : ji3 ≤ 64 := by omega))
 have hji3_ : (if 4 < a1 then 4 else a1) = ji3 := hji3
 replace H := Option.bind_eq_some_iff.mp H
 obtain ⟨t106, A40, H⟩ := H
 replace H : (some (t106 == a0)) = some r := H
 have A4 := Aside0.mk A40
 clear A40
 obtain rfl := Option.some.inj H
 go_enter Try.func110, Try.ntmps110
 go_wp2_with (first | ((with_reducible refine gate_callee (f := 160) rfl ?_); refine goesL_ (some 8) rfl rfl Try.func160 by5 rfl #[.int .i64 a0, .int .i64 ji3] rfl (by (try simp only [List.map_toArray, List.map_cons, List.map_nil]); first | done | (simp only [hji3]; rfl) | rfl | (simp only [List.length_drop, List.length_take]; rfl)) ?_; (with_reducible refine (spec_l01Sign.calls k a0 ji3 t106 _ A4.out).mono ?_); rintro e w5 ⟨rfl, hb⟩; refine ⟨_, rfl, ?_⟩; have n0_ := Aside0.mk (below_step by1 hb); clear HB; have HB := n0_; clear n0_; (try clear hb); (try clear hb2); (try clear hk); (try clear hi)))
 go_ret
 exact ⟨by first | rfl | (simp [errW_none, errW_some] <;> rfl) | (simp only [← hji3]; first | rfl | (simp [errW_none, errW_some] <;> rfl)) | (simp [*, errW_none, errW_some] <;> rfl), by repeat (first | (with_reducible first | exact HB.out | apply below_alloc | apply pw_below_drewN | apply below_drew1) | exact HB.out)⟩

/-! ### spec_l01Size: function 152 -/
def spec_l01Size.f (a0 : Int) : Option (Bool) := if a0 = 1 then (some true) else (if a0 = 2 then (some true) else (if a0 = 4 then (some true) else (some (a0 == 8))))
set_option maxHeartbeats 8000000 in
set_option maxRecDepth 100000 in
theorem spec_l01Size.calls (a0 : Int) (r : Bool) (w : World) (h : spec_l01Size.f a0 = some r) :
  Calls Try.prog 152 #[.int .i64 a0] w fun e w' => e = .returned (.bool r) ∧ Drawn0 w w' := by
 have H : (if a0 = 1 then (some true) else (if a0 = 2 then (some true) else (if a0 = 4 then (some true) else (some (a0 == 8))))) = some r := h
 clear h
 by_cases c2 : a0 = 1
 ·rw [if_pos c2] at H
  have c2b0 : (a0 == 1) = true := beq_iff_eq.mpr c2
  have c2b1 : (a0 != 1) = false := bne_eq_false_iff_eq.mpr c2
  clear c2
  obtain rfl := Option.some.inj H
  go_enter Try.func152, Try.ntmps152
  go_wp2
  go_ret
  exact ⟨by first | rfl | (simp; done) | (simp [*]; done), by repeat (first | exact Drawn0.refl _ | apply Drawn0.step)⟩
 ·rw [if_neg c2] at H
  have c2b0 : (a0 == 1) = false := beq_eq_false_iff_ne.mpr c2
  have c2b1 : (a0 != 1) = true := bne_iff_ne.mpr c2
  by_cases c3 : a0 = 2
  ·rw [if_pos c3] at H
   have c3b0 : (a0 == 2) = true := beq_iff_eq.mpr c3
   have c3b1 : (a0 != 2) = false := bne_eq_false_iff_eq.mpr c3
   clear c3
   obtain rfl := Option.some.inj H
   go_enter Try.func152, Try.ntmps152
   go_wp2
   go_ret
   exact ⟨by first | rfl | (simp; done) | (simp [*]; done), by repeat (first | exact Drawn0.refl _ | apply Drawn0.step)⟩
  ·rw [if_neg c3] at H
   have c3b0 : (a0 == 2) = false := beq_eq_false_iff_ne.mpr c3
   have c3b1 : (a0 != 2) = true := bne_iff_ne.mpr c3
   by_cases c4 : a0 = 4
   ·rw [if_pos c4] at H
    have c4b0 : (a0 == 4) = true := beq_iff_eq.mpr c4
    have c4b1 : (a0 != 4) = false := bne_eq_false_iff_eq.mpr c4
    clear c4
    obtain rfl := Option.some.inj H
    go_enter Try.func152, Try.ntmps152
    go_wp2
    go_ret
    exact ⟨by first | rfl | (simp; done) | (simp [*]; done), by repeat (first | exact Drawn0.refl _ | apply Drawn0.step)⟩
   ·rw [if_neg c4] at H
    have c4b0 : (a0 == 4) = false := beq_eq_false_iff_ne.mpr c4
    have c4b1 : (a0 != 4) = true := bne_iff_ne.mpr c4
    obtain rfl := Option.some.inj H
    go_enter Try.func152, Try.ntmps152
    go_wp2
    go_ret
    exact ⟨by first | rfl | (simp; done) | (simp [*]; done), by repeat (first | exact Drawn0.refl _ | apply Drawn0.step)⟩

/-! ### spec_l05Has: function 219 -/
def spec_l05Has.l0 : Nat → ByteArray → Int → Int → Option (Bool)
 | 0, _, _, _ => none
 | k + 1, x0, x1, x5 => if x5 < (x0.size : Int) then (if 0 ≤ x5 then (if (bt x0 x5) = x1 then (some true) else (spec_l05Has.l0 k x0 x1 (wrap64 (x5 + 1)))) else (none)) else (some false)
def spec_l05Has.f (k : Nat) (a0 : ByteArray) (a1 : Int) : Option (Bool) := spec_l05Has.l0 k a0 a1 0
theorem spec_l05Has.mono_l : ∀ k, (∀ y0 y1 y2, LeO (spec_l05Has.l0 k y0 y1 y2) (spec_l05Has.l0 (k + 1) y0 y1 y2))
 | 0 => fun _ _ _ r h => by simp [spec_l05Has.l0] at h
 | k + 1 => by
  have ih0 := spec_l05Has.mono_l k
  ·intro y0 y1 y2
   unfold spec_l05Has.l0
   repeat' first
   | (with_reducible exact ih0 _ _ _)
   | (with_reducible exact LeO.refl _)
   | (with_reducible exact LeO.none _)
   | (with_reducible refine LeO.ite ?_ ?_)
   | (with_reducible refine LeO.bind ?_ (fun _ => ?_))
   | refine LeO.ite ?_ ?_
   | refine LeO.bind ?_ (fun _ => ?_)
theorem spec_l05Has.mono : ∀ a0 a1 k, LeO (spec_l05Has.f k a0 a1) (spec_l05Has.f (k + 1) a0 a1) := by
 intro a0 a1 k
 have ih0 := spec_l05Has.mono_l k
 unfold spec_l05Has.f
 repeat' first
   | (with_reducible exact ih0 _ _ _)
   | (with_reducible exact LeO.refl _)
   | (with_reducible exact LeO.none _)
   | (with_reducible refine LeO.ite ?_ ?_)
   | (with_reducible refine LeO.bind ?_ (fun _ => ?_))
   | refine LeO.ite ?_ ?_
   | refine LeO.bind ?_ (fun _ => ?_)
set_option maxHeartbeats 8000000 in
set_option maxRecDepth 100000 in
theorem spec_l05Has.calls (k : Nat) (a0 : ByteArray) (a1 : Int) (r : Bool) (w : World) (h : spec_l05Has.f k a0 a1 = some r) :
  Calls Try.prog 219 #[.string a0, .int .u8 a1] w fun e w' => e = .returned (.bool r) ∧ Drawn0 w w' := by
 have H : (spec_l05Has.l0 k a0 a1 0) = some r := h
 clear h
 have H' := Aside0.mk H
 clear H
 go_enter Try.func219, Try.ntmps219
 go_wp2
 go_loopg [5] k (fun kq v5 w' => ∃ (x5_1 : Int), v5 = .int .i64 x5_1 ∧ Aside0 (spec_l05Has.l0 kq a0 a1 x5_1 = some r) ∧ Aside0 (kq ≤ k) ∧ Drawn0 w w')
 case atStart => exact ⟨(0), by11, H', ⟨Nat.le_refl _⟩, by repeat (first | exact Drawn0.refl _ | apply Drawn0.step)⟩
 case round =>
  clear H'
  (try clear c2)
  obtain ⟨x5_1, rfl, HA, HK1, ⟨m1, rfl⟩⟩ := hrel
  cases gk with
  | zero => exact absurd HA.out (by simp [spec_l05Has.l0])
  | succ k1 =>
   have H := HA.out
   clear HA
   simp only [spec_l05Has.l0] at H
   by_cases c3 : x5_1 < (a0.size : Int)
   ·rw [if_pos c3] at H
    have c3b0 : decide (x5_1 < (a0.size : Int)) = true := decide_eq_true c3
    clear c3
    by_cases c4 : 0 ≤ x5_1
    ·rw [if_pos c4] at H
     have c4b0 : decide (0 ≤ x5_1) = true := decide_eq_true c4
     clear c4
     by_cases c6 : (bt a0 x5_1) = a1
     ·rw [if_pos c6] at H
      have c6b0 : ((bt a0 x5_1) == a1) = true := beq_iff_eq.mpr c6
      have c6b1 : ((bt a0 x5_1) != a1) = false := bne_eq_false_iff_eq.mpr c6
      clear c6
      obtain rfl := Option.some.inj H
      have p5 : 0 ≤ (x5_1 : Int) := of_decide_eq_true by57
      have q5 : x5_1 < (a0.size : Int) := of_decide_eq_true by57
      have hx5 := bt_at a0 x5_1
      replace p5 := eq_true p5
      replace q5 := eq_true q5
      go_wp2
      go_ret
      exact ⟨by first | rfl | (simp; done) | (simp [*]; done), by repeat (first | exact Drawn0.refl _ | apply Drawn0.step)⟩
     ·rw [if_neg c6] at H
      have c6b0 : ((bt a0 x5_1) == a1) = false := beq_eq_false_iff_ne.mpr c6
      have c6b1 : ((bt a0 x5_1) != a1) = true := bne_iff_ne.mpr c6
      have H' := Aside0.mk H
      clear H
      have p5 : 0 ≤ (x5_1 : Int) := of_decide_eq_true by57
      have q5 : x5_1 < (a0.size : Int) := of_decide_eq_true by57
      have hx5 := bt_at a0 x5_1
      replace p5 := eq_true p5
      replace q5 := eq_true q5
      go_wp2
      go_roundg k1
      case measure => have := HK1.out; omega
      case rel => exact ⟨(wrap64 (x5_1 + 1)), by11, H', ⟨by have := HK1.out; omega⟩, by repeat (first | exact Drawn0.refl _ | apply Drawn0.step)⟩
    ·rw [if_neg c4] at H
     exact absurd H (by simp)
   ·rw [if_neg c3] at H
    have c3b0 : decide (x5_1 < (a0.size : Int)) = false := decide_eq_false c3
    clear c3
    obtain rfl := Option.some.inj H
    go_wp2
    go_ret
    exact ⟨by first | rfl | (simp; done) | (simp [*]; done), by repeat (first | exact Drawn0.refl _ | apply Drawn0.step)⟩

/-! ### spec_l05Kind: function 203 -/
def spec_l05Kind.f (k : Nat) (a0_0 : Int) (a0_1 : Int) (a0_2 : Int) (a0_3 : Int) (a0_4 : Int) (a0_5 : Int) (a0_6 : Int) (a1 : ByteArray) : Option (Bool) := if a0_0 = 1 then ((spec_l05Has.f k a1 114).bind fun t108 => (if t108 = true then (some true) else (if a0_0 = 2 then ((spec_l05Has.f k a1 109).bind fun t109 => (if t109 = true then (some true) else (if a0_0 = 3 then ((spec_l05Has.f k a1 105).bind fun t110 => (if t110 = true then (some true) else (if a0_0 = 0 then ((spec_l05Has.f k a1 48).bind fun t111 => (some t111)) else (some false)))) else (if a0_0 = 0 then ((spec_l05Has.f k a1 48).bind fun t112 => (some t112)) else (some false))))) else (if a0_0 = 3 then ((spec_l05Has.f k a1 105).bind fun t113 => (if t113 = true then (some true) else (if a0_0 = 0 then ((spec_l05Has.f k a1 48).bind fun t114 => (some t114)) else (some false)))) else (if a0_0 = 0 then ((spec_l05Has.f k a1 48).bind fun t115 => (some t115)) else (some false)))))) else (if a0_0 = 2 then ((spec_l05Has.f k a1 109).bind fun t116 => (if t116 = true then (some true) else (if a0_0 = 3 then ((spec_l05Has.f k a1 105).bind fun t117 => (if t117 = true then (some true) else (if a0_0 = 0 then ((spec_l05Has.f k a1 48).bind fun t118 => (some t118)) else (some false)))) else (if a0_0 = 0 then ((spec_l05Has.f k a1 48).bind fun t119 => (some t119)) else (some false))))) else (if a0_0 = 3 then ((spec_l05Has.f k a1 105).bind fun t120 => (if t120 = true then (some true) else (if a0_0 = 0 then ((spec_l05Has.f k a1 48).bind fun t121 => (some t121)) else (some false)))) else (if a0_0 = 0 then ((spec_l05Has.f k a1 48).bind fun t122 => (some t122)) else (some false))))
theorem spec_l05Kind.mono : ∀ a0 a1 a2 a3 a4 a5 a6 a7 k, LeO (spec_l05Kind.f k a0 a1 a2 a3 a4 a5 a6 a7) (spec_l05Kind.f (k + 1) a0 a1 a2 a3 a4 a5 a6 a7) := by
 intro a0 a1 a2 a3 a4 a5 a6 a7 k
 unfold spec_l05Kind.f
 repeat' first
   | (with_reducible exact spec_l05Has.mono _ _ _)
   | (with_reducible exact LeO.refl _)
   | (with_reducible exact LeO.none _)
   | (with_reducible refine LeO.ite ?_ ?_)
   | (with_reducible refine LeO.bind ?_ (fun _ => ?_))
   | refine LeO.ite ?_ ?_
   | refine LeO.bind ?_ (fun _ => ?_)
set_option maxHeartbeats 8000000 in
set_option maxRecDepth 100000 in
theorem spec_l05Kind.calls (k : Nat) (a0_0 : Int) (a0_1 : Int) (a0_2 : Int) (a0_3 : Int) (a0_4 : Int) (a0_5 : Int) (a0_6 : Int) (a1 : ByteArray) (r : Bool) (w : World) (h : spec_l05Kind.f k a0_0 a0_1 a0_2 a0_3 a0_4 a0_5 a0_6 a1 = some r) :
  Calls Try.prog 203 #[.agg #[.int .i64 a0_0, .int .i64 a0_1, .int .i64 a0_2, .int .i64 a0_3, .int .i64 a0_4, .int .i64 a0_5, .int .i64 a0_6], .string a1] w fun e w' => e = .returned (.bool r) ∧ Below w.heap.size w w' := by
 have hu28 := Try.underlying28
 have HB := Aside0.mk (Below.refl w.heap.size w)
 have H : (if a0_0 = 1 then ((spec_l05Has.f k a1 114).bind fun t108 => (if t108 = true then (some true) else (if a0_0 = 2 then ((spec_l05Has.f k a1 109).bind fun t109 => (if t109 = true then (some true) else (if a0_0 = 3 then ((spec_l05Has.f k a1 105).bind fun t110 => (if t110 = true then (some true) else (if a0_0 = 0 then ((spec_l05Has.f k a1 48).bind fun t111 => (some t111)) else (some false)))) else (if a0_0 = 0 then ((spec_l05Has.f k a1 48).bind fun t112 => (some t112)) else (some false))))) else (if a0_0 = 3 then ((spec_l05Has.f k a1 105).bind fun t113 => (if t113 = true then (some true) else (if a0_0 = 0 then ((spec_l05Has.f k a1 48).bind fun t114 => (some t114)) else (some false)))) else (if a0_0 = 0 then ((spec_l05Has.f k a1 48).bind fun t115 => (some t115)) else (some false)))))) else (if a0_0 = 2 then ((spec_l05Has.f k a1 109).bind fun t116 => (if t116 = true then (some true) else (if a0_0 = 3 then ((spec_l05Has.f k a1 105).bind fun t117 => (if t117 = true then (some true) else (if a0_0 = 0 then ((spec_l05Has.f k a1 48).bind fun t118 => (some t118)) else (some false)))) else (if a0_0 = 0 then ((spec_l05Has.f k a1 48).bind fun t119 => (some t119)) else (some false))))) else (if a0_0 = 3 then ((spec_l05Has.f k a1 105).bind fun t120 => (if t120 = true then (some true) else (if a0_0 = 0 then ((spec_l05Has.f k a1 48).bind fun t121 => (some t121)) else (some false)))) else (if a0_0 = 0 then ((spec_l05Has.f k a1 48).bind fun t122 => (some t122)) else (some false))))) = some r := h
 clear h
 by_cases c3 : a0_0 = 1
 ·rw [if_pos c3] at H
  have c3b0 : (a0_0 == 1) = true := beq_iff_eq.mpr c3
  have c3b1 : (a0_0 != 1) = false := bne_eq_false_iff_eq.mpr c3
  clear c3
  replace H := Option.bind_eq_some_iff.mp H
  obtain ⟨t108, A40, H⟩ := H
  replace H : (if t108 = true then (some true) else (if a0_0 = 2 then ((spec_l05Has.f k a1 109).bind fun t109 => (if t109 = true then (some true) else (if a0_0 = 3 then ((spec_l05Has.f k a1 105).bind fun t110 => (if t110 = true then (some true) else (if a0_0 = 0 then ((spec_l05Has.f k a1 48).bind fun t111 => (some t111)) else (some false)))) else (if a0_0 = 0 then ((spec_l05Has.f k a1 48).bind fun t112 => (some t112)) else (some false))))) else (if a0_0 = 3 then ((spec_l05Has.f k a1 105).bind fun t113 => (if t113 = true then (some true) else (if a0_0 = 0 then ((spec_l05Has.f k a1 48).bind fun t114 => (some t114)) else (some false)))) else (if a0_0 = 0 then ((spec_l05Has.f k a1 48).bind fun t115 => (some t115)) else (some false))))) = some r := H
  have A4 := Aside0.mk A40
  clear A40
  by_cases c5 : t108 = true
  ·subst c5
   have H1 : (some true) = some r := by rw [if_pos rfl] at H; exact H
   clear H
   have H := H1
   clear H1
   obtain rfl := Option.some.inj H
   go_enter Try.func203, Try.ntmps203
   go_wp2_with (first | ((with_reducible refine gate_dst (N := 2) rfl ?_); refine box_event ?hg (N := 2) ?hd (cs := #[.int .i64 a0_0, .int .i64 a0_1, .int .i64 a0_2, .int .i64 a0_3, .int .i64 a0_4, .int .i64 a0_5, .int .i64 a0_6]) (t := 28) ?hr ?_; (case hd => rfl); (case hg => rfl); (case hr => first | (go_simp; done) | (go_simp; rfl)); intro gb107 hg w6 hbox hb; have n0_ := Aside0.mk (below_step by1 hb); have n1_ := Aside0.mk (hbox); have n2_ := Aside0.mk ((by0 : w.heap.size ≤ gb107)); have n3_ := Aside0.mk ((by0 : w.heap.size ≤ gb107)); clear HB; have HB := n0_; have BK107 := n1_; have GW107 := n2_; have GE107 := n3_; clear n0_ n1_ n2_ n3_; clear hb hbox hg; have hcz7_0 := cz BK107.out 0 (.int .i64 a0_0)) | (go_at_call 219; (with_reducible refine (spec_l05Has.calls k a1 114 true _ A4.out).mono ?_); rintro e w' ⟨rfl, ⟨nd, rfl⟩⟩))
   go_ret
   exact ⟨by first | rfl | (simp [errW_none, errW_some] <;> rfl) | (simp [*, errW_none, errW_some] <;> rfl), by repeat (first | (with_reducible first | exact HB.out | apply below_alloc | apply pw_below_drewN | apply below_drew1 | refine below_set ?_ GE107.out) | exact HB.out)⟩
  ·replace c5 := Bool.eq_false_iff.mpr c5
   subst c5
   have H1 : (if a0_0 = 2 then ((spec_l05Has.f k a1 109).bind fun t109 => (if t109 = true then (some true) else (if a0_0 = 3 then ((spec_l05Has.f k a1 105).bind fun t110 => (if t110 = true then (some true) else (if a0_0 = 0 then ((spec_l05Has.f k a1 48).bind fun t111 => (some t111)) else (some false)))) else (if a0_0 = 0 then ((spec_l05Has.f k a1 48).bind fun t112 => (some t112)) else (some false))))) else (if a0_0 = 3 then ((spec_l05Has.f k a1 105).bind fun t113 => (if t113 = true then (some true) else (if a0_0 = 0 then ((spec_l05Has.f k a1 48).bind fun t114 => (some t114)) else (some false)))) else (if a0_0 = 0 then ((spec_l05Has.f k a1 48).bind fun t115 => (some t115)) else (some false)))) = some r := by rw [if_neg (show ¬ (false = true) by decide)] at H; exact H
   clear H
   have H := H1
   clear H1
   by_cases c8 : a0_0 = 2
   ·rw [if_pos c8] at H
    have c8b0 : (a0_0 == 2) = true := beq_iff_eq.mpr c8
    have c8b1 : (a0_0 != 2) = false := bne_eq_false_iff_eq.mpr c8
    clear c8
    replace H := Option.bind_eq_some_iff.mp H
    obtain ⟨t109, A90, H⟩ := H
    replace H : (if t109 = true then (some true) else (if a0_0 = 3 then ((spec_l05Has.f k a1 105).bind fun t110 => (if t110 = true then (some true) else (if a0_0 = 0 then ((spec_l05Has.f k a1 48).bind fun t111 => (some t111)) else (some false)))) else (if a0_0 = 0 then ((spec_l05Has.f k a1 48).bind fun t112 => (some t112)) else (some false)))) = some r := H
    have A9 := Aside0.mk A90
    clear A90
    by_cases c10 : t109 = true
    ·subst c10
     have H1 : (some true) = some r := by rw [if_pos rfl] at H; exact H
     clear H
     have H := H1
     clear H1
     obtain rfl := Option.some.inj H
     go_enter Try.func203, Try.ntmps203
     go_wp2_with (first | ((with_reducible refine gate_dst (N := 2) rfl ?_); refine box_event ?hg (N := 2) ?hd (cs := #[.int .i64 a0_0, .int .i64 a0_1, .int .i64 a0_2, .int .i64 a0_3, .int .i64 a0_4, .int .i64 a0_5, .int .i64 a0_6]) (t := 28) ?hr ?_; (case hd => rfl); (case hg => rfl); (case hr => first | (go_simp; done) | (go_simp; rfl)); intro gb107 hg w11 hbox hb; have n0_ := Aside0.mk (below_step by1 hb); have n1_ := Aside0.mk (hbox); have n2_ := Aside0.mk ((by0 : w.heap.size ≤ gb107)); have n3_ := Aside0.mk ((by0 : w.heap.size ≤ gb107)); clear HB; have HB := n0_; have BK107 := n1_; have GW107 := n2_; have GE107 := n3_; clear n0_ n1_ n2_ n3_; clear hb hbox hg; have hcz12_0 := cz BK107.out 0 (.int .i64 a0_0)) | (go_at_call 219; (with_reducible refine (spec_l05Has.calls k a1 114 false _ A4.out).mono ?_); rintro e w' ⟨rfl, ⟨nd, rfl⟩⟩) | (go_at_call 219; (with_reducible refine (spec_l05Has.calls k a1 109 true _ A9.out).mono ?_); rintro e w' ⟨rfl, ⟨nd, rfl⟩⟩))
     go_ret
     exact ⟨by first | rfl | (simp [errW_none, errW_some] <;> rfl) | (simp [*, errW_none, errW_some] <;> rfl), by repeat (first | (with_reducible first | exact HB.out | apply below_alloc | apply pw_below_drewN | apply below_drew1 | refine below_set ?_ GE107.out) | exact HB.out)⟩
    ·replace c10 := Bool.eq_false_iff.mpr c10
     subst c10
     have H1 : (if a0_0 = 3 then ((spec_l05Has.f k a1 105).bind fun t110 => (if t110 = true then (some true) else (if a0_0 = 0 then ((spec_l05Has.f k a1 48).bind fun t111 => (some t111)) else (some false)))) else (if a0_0 = 0 then ((spec_l05Has.f k a1 48).bind fun t112 => (some t112)) else (some false))) = some r := by rw [if_neg (show ¬ (false = true) by decide)] at H; exact H
     clear H
     have H := H1
     clear H1
     by_cases c13 : a0_0 = 3
     ·rw [if_pos c13] at H
      have c13b0 : (a0_0 == 3) = true := beq_iff_eq.mpr c13
      have c13b1 : (a0_0 != 3) = false := bne_eq_false_iff_eq.mpr c13
      clear c13
      replace H := Option.bind_eq_some_iff.mp H
      obtain ⟨t110, A140, H⟩ := H
      replace H : (if t110 = true then (some true) else (if a0_0 = 0 then ((spec_l05Has.f k a1 48).bind fun t111 => (some t111)) else (some false))) = some r := H
      have A14 := Aside0.mk A140
      clear A140
      by_cases c15 : t110 = true
      ·subst c15
       have H1 : (some true) = some r := by rw [if_pos rfl] at H; exact H
       clear H
       have H := H1
       clear H1
       obtain rfl := Option.some.inj H
       go_enter Try.func203, Try.ntmps203
       go_wp2_with (first | ((with_reducible refine gate_dst (N := 2) rfl ?_); refine box_event ?hg (N := 2) ?hd (cs := #[.int .i64 a0_0, .int .i64 a0_1, .int .i64 a0_2, .int .i64 a0_3, .int .i64 a0_4, .int .i64 a0_5, .int .i64 a0_6]) (t := 28) ?hr ?_; (case hd => rfl); (case hg => rfl); (case hr => first | (go_simp; done) | (go_simp; rfl)); intro gb107 hg w16 hbox hb; have n0_ := Aside0.mk (below_step by1 hb); have n1_ := Aside0.mk (hbox); have n2_ := Aside0.mk ((by0 : w.heap.size ≤ gb107)); have n3_ := Aside0.mk ((by0 : w.heap.size ≤ gb107)); clear HB; have HB := n0_; have BK107 := n1_; have GW107 := n2_; have GE107 := n3_; clear n0_ n1_ n2_ n3_; clear hb hbox hg; have hcz17_0 := cz BK107.out 0 (.int .i64 a0_0)) | (go_at_call 219; (with_reducible refine (spec_l05Has.calls k a1 114 false _ A4.out).mono ?_); rintro e w' ⟨rfl, ⟨nd, rfl⟩⟩) | (go_at_call 219; (with_reducible refine (spec_l05Has.calls k a1 109 false _ A9.out).mono ?_); rintro e w' ⟨rfl, ⟨nd, rfl⟩⟩) | (go_at_call 219; (with_reducible refine (spec_l05Has.calls k a1 105 true _ A14.out).mono ?_); rintro e w' ⟨rfl, ⟨nd, rfl⟩⟩))
       go_ret
       exact ⟨by first | rfl | (simp [errW_none, errW_some] <;> rfl) | (simp [*, errW_none, errW_some] <;> rfl), by repeat (first | (with_reducible first | exact HB.out | apply below_alloc | apply pw_below_drewN | apply below_drew1 | refine below_set ?_ GE107.out) | exact HB.out)⟩
      ·replace c15 := Bool.eq_false_iff.mpr c15
       subst c15
       have H1 : (if a0_0 = 0 then ((spec_l05Has.f k a1 48).bind fun t111 => (some t111)) else (some false)) = some r := by rw [if_neg (show ¬ (false = true) by decide)] at H; exact H
       clear H
       have H := H1
       clear H1
       by_cases c18 : a0_0 = 0
       ·rw [if_pos c18] at H
        have c18b0 : (a0_0 == 0) = true := beq_iff_eq.mpr c18
        have c18b1 : (a0_0 != 0) = false := bne_eq_false_iff_eq.mpr c18
        clear c18
        replace H := Option.bind_eq_some_iff.mp H
        obtain ⟨t111, A190, H⟩ := H
        replace H : (some t111) = some r := H
        have A19 := Aside0.mk A190
        clear A190
        obtain rfl := Option.some.inj H
        go_enter Try.func203, Try.ntmps203
        go_wp2_with (first | ((with_reducible refine gate_dst (N := 2) rfl ?_); refine box_event ?hg (N := 2) ?hd (cs := #[.int .i64 a0_0, .int .i64 a0_1, .int .i64 a0_2, .int .i64 a0_3, .int .i64 a0_4, .int .i64 a0_5, .int .i64 a0_6]) (t := 28) ?hr ?_; (case hd => rfl); (case hg => rfl); (case hr => first | (go_simp; done) | (go_simp; rfl)); intro gb107 hg w20 hbox hb; have n0_ := Aside0.mk (below_step by1 hb); have n1_ := Aside0.mk (hbox); have n2_ := Aside0.mk ((by0 : w.heap.size ≤ gb107)); have n3_ := Aside0.mk ((by0 : w.heap.size ≤ gb107)); clear HB; have HB := n0_; have BK107 := n1_; have GW107 := n2_; have GE107 := n3_; clear n0_ n1_ n2_ n3_; clear hb hbox hg; have hcz21_0 := cz BK107.out 0 (.int .i64 a0_0)) | (go_at_call 219; (with_reducible refine (spec_l05Has.calls k a1 114 false _ A4.out).mono ?_); rintro e w' ⟨rfl, ⟨nd, rfl⟩⟩) | (go_at_call 219; (with_reducible refine (spec_l05Has.calls k a1 109 false _ A9.out).mono ?_); rintro e w' ⟨rfl, ⟨nd, rfl⟩⟩) | (go_at_call 219; (with_reducible refine (spec_l05Has.calls k a1 105 false _ A14.out).mono ?_); rintro e w' ⟨rfl, ⟨nd, rfl⟩⟩) | (go_at_call 219; (with_reducible refine (spec_l05Has.calls k a1 48 t111 _ A19.out).mono ?_); rintro e w' ⟨rfl, ⟨nd, rfl⟩⟩))
        go_ret
        exact ⟨by first | rfl | (simp [errW_none, errW_some] <;> rfl) | (simp [*, errW_none, errW_some] <;> rfl), by repeat (first | (with_reducible first | exact HB.out | apply below_alloc | apply pw_below_drewN | apply below_drew1 | refine below_set ?_ GE107.out) | exact HB.out)⟩
       ·rw [if_neg c18] at H
        have c18b0 : (a0_0 == 0) = false := beq_eq_false_iff_ne.mpr c18
        have c18b1 : (a0_0 != 0) = true := bne_iff_ne.mpr c18
        obtain rfl := Option.some.inj H
        go_enter Try.func203, Try.ntmps203
        go_wp2_with (first | ((with_reducible refine gate_dst (N := 2) rfl ?_); refine box_event ?hg (N := 2) ?hd (cs := #[.int .i64 a0_0, .int .i64 a0_1, .int .i64 a0_2, .int .i64 a0_3, .int .i64 a0_4, .int .i64 a0_5, .int .i64 a0_6]) (t := 28) ?hr ?_; (case hd => rfl); (case hg => rfl); (case hr => first | (go_simp; done) | (go_simp; rfl)); intro gb107 hg w22 hbox hb; have n0_ := Aside0.mk (below_step by1 hb); have n1_ := Aside0.mk (hbox); have n2_ := Aside0.mk ((by0 : w.heap.size ≤ gb107)); have n3_ := Aside0.mk ((by0 : w.heap.size ≤ gb107)); clear HB; have HB := n0_; have BK107 := n1_; have GW107 := n2_; have GE107 := n3_; clear n0_ n1_ n2_ n3_; clear hb hbox hg; have hcz23_0 := cz BK107.out 0 (.int .i64 a0_0)) | (go_at_call 219; (with_reducible refine (spec_l05Has.calls k a1 114 false _ A4.out).mono ?_); rintro e w' ⟨rfl, ⟨nd, rfl⟩⟩) | (go_at_call 219; (with_reducible refine (spec_l05Has.calls k a1 109 false _ A9.out).mono ?_); rintro e w' ⟨rfl, ⟨nd, rfl⟩⟩) | (go_at_call 219; (with_reducible refine (spec_l05Has.calls k a1 105 false _ A14.out).mono ?_); rintro e w' ⟨rfl, ⟨nd, rfl⟩⟩))
        go_ret
        exact ⟨by first | rfl | (simp [errW_none, errW_some] <;> rfl) | (simp [*, errW_none, errW_some] <;> rfl), by repeat (first | (with_reducible first | exact HB.out | apply below_alloc | apply pw_below_drewN | apply below_drew1 | refine below_set ?_ GE107.out) | exact HB.out)⟩
     ·rw [if_neg c13] at H
      have c13b0 : (a0_0 == 3) = false := beq_eq_false_iff_ne.mpr c13
      have c13b1 : (a0_0 != 3) = true := bne_iff_ne.mpr c13
      by_cases c24 : a0_0 = 0
      ·rw [if_pos c24] at H
       have c24b0 : (a0_0 == 0) = true := beq_iff_eq.mpr c24
       have c24b1 : (a0_0 != 0) = false := bne_eq_false_iff_eq.mpr c24
       clear c24
       replace H := Option.bind_eq_some_iff.mp H
       obtain ⟨t112, A250, H⟩ := H
       replace H : (some t112) = some r := H
       have A25 := Aside0.mk A250
       clear A250
       obtain rfl := Option.some.inj H
       go_enter Try.func203, Try.ntmps203
       go_wp2_with (first | ((with_reducible refine gate_dst (N := 2) rfl ?_); refine box_event ?hg (N := 2) ?hd (cs := #[.int .i64 a0_0, .int .i64 a0_1, .int .i64 a0_2, .int .i64 a0_3, .int .i64 a0_4, .int .i64 a0_5, .int .i64 a0_6]) (t := 28) ?hr ?_; (case hd => rfl); (case hg => rfl); (case hr => first | (go_simp; done) | (go_simp; rfl)); intro gb107 hg w26 hbox hb; have n0_ := Aside0.mk (below_step by1 hb); have n1_ := Aside0.mk (hbox); have n2_ := Aside0.mk ((by0 : w.heap.size ≤ gb107)); have n3_ := Aside0.mk ((by0 : w.heap.size ≤ gb107)); clear HB; have HB := n0_; have BK107 := n1_; have GW107 := n2_; have GE107 := n3_; clear n0_ n1_ n2_ n3_; clear hb hbox hg; have hcz27_0 := cz BK107.out 0 (.int .i64 a0_0)) | (go_at_call 219; (with_reducible refine (spec_l05Has.calls k a1 114 false _ A4.out).mono ?_); rintro e w' ⟨rfl, ⟨nd, rfl⟩⟩) | (go_at_call 219; (with_reducible refine (spec_l05Has.calls k a1 109 false _ A9.out).mono ?_); rintro e w' ⟨rfl, ⟨nd, rfl⟩⟩) | (go_at_call 219; (with_reducible refine (spec_l05Has.calls k a1 48 t112 _ A25.out).mono ?_); rintro e w' ⟨rfl, ⟨nd, rfl⟩⟩))
       go_ret
       exact ⟨by first | rfl | (simp [errW_none, errW_some] <;> rfl) | (simp [*, errW_none, errW_some] <;> rfl), by repeat (first | (with_reducible first | exact HB.out | apply below_alloc | apply pw_below_drewN | apply below_drew1 | refine below_set ?_ GE107.out) | exact HB.out)⟩
      ·rw [if_neg c24] at H
       have c24b0 : (a0_0 == 0) = false := beq_eq_false_iff_ne.mpr c24
       have c24b1 : (a0_0 != 0) = true := bne_iff_ne.mpr c24
       obtain rfl := Option.some.inj H
       go_enter Try.func203, Try.ntmps203
       go_wp2_with (first | ((with_reducible refine gate_dst (N := 2) rfl ?_); refine box_event ?hg (N := 2) ?hd (cs := #[.int .i64 a0_0, .int .i64 a0_1, .int .i64 a0_2, .int .i64 a0_3, .int .i64 a0_4, .int .i64 a0_5, .int .i64 a0_6]) (t := 28) ?hr ?_; (case hd => rfl); (case hg => rfl); (case hr => first | (go_simp; done) | (go_simp; rfl)); intro gb107 hg w28 hbox hb; have n0_ := Aside0.mk (below_step by1 hb); have n1_ := Aside0.mk (hbox); have n2_ := Aside0.mk ((by0 : w.heap.size ≤ gb107)); have n3_ := Aside0.mk ((by0 : w.heap.size ≤ gb107)); clear HB; have HB := n0_; have BK107 := n1_; have GW107 := n2_; have GE107 := n3_; clear n0_ n1_ n2_ n3_; clear hb hbox hg; have hcz29_0 := cz BK107.out 0 (.int .i64 a0_0)) | (go_at_call 219; (with_reducible refine (spec_l05Has.calls k a1 114 false _ A4.out).mono ?_); rintro e w' ⟨rfl, ⟨nd, rfl⟩⟩) | (go_at_call 219; (with_reducible refine (spec_l05Has.calls k a1 109 false _ A9.out).mono ?_); rintro e w' ⟨rfl, ⟨nd, rfl⟩⟩))
       go_ret
       exact ⟨by first | rfl | (simp [errW_none, errW_some] <;> rfl) | (simp [*, errW_none, errW_some] <;> rfl), by repeat (first | (with_reducible first | exact HB.out | apply below_alloc | apply pw_below_drewN | apply below_drew1 | refine below_set ?_ GE107.out) | exact HB.out)⟩
   ·rw [if_neg c8] at H
    have c8b0 : (a0_0 == 2) = false := beq_eq_false_iff_ne.mpr c8
    have c8b1 : (a0_0 != 2) = true := bne_iff_ne.mpr c8
    by_cases c30 : a0_0 = 3
    ·rw [if_pos c30] at H
     have c30b0 : (a0_0 == 3) = true := beq_iff_eq.mpr c30
     have c30b1 : (a0_0 != 3) = false := bne_eq_false_iff_eq.mpr c30
     clear c30
     replace H := Option.bind_eq_some_iff.mp H
     obtain ⟨t113, A310, H⟩ := H
     replace H : (if t113 = true then (some true) else (if a0_0 = 0 then ((spec_l05Has.f k a1 48).bind fun t114 => (some t114)) else (some false))) = some r := H
     have A31 := Aside0.mk A310
     clear A310
     by_cases c32 : t113 = true
     ·subst c32
      have H1 : (some true) = some r := by rw [if_pos rfl] at H; exact H
      clear H
      have H := H1
      clear H1
      obtain rfl := Option.some.inj H
      go_enter Try.func203, Try.ntmps203
      go_wp2_with (first | ((with_reducible refine gate_dst (N := 2) rfl ?_); refine box_event ?hg (N := 2) ?hd (cs := #[.int .i64 a0_0, .int .i64 a0_1, .int .i64 a0_2, .int .i64 a0_3, .int .i64 a0_4, .int .i64 a0_5, .int .i64 a0_6]) (t := 28) ?hr ?_; (case hd => rfl); (case hg => rfl); (case hr => first | (go_simp; done) | (go_simp; rfl)); intro gb107 hg w33 hbox hb; have n0_ := Aside0.mk (below_step by1 hb); have n1_ := Aside0.mk (hbox); have n2_ := Aside0.mk ((by0 : w.heap.size ≤ gb107)); have n3_ := Aside0.mk ((by0 : w.heap.size ≤ gb107)); clear HB; have HB := n0_; have BK107 := n1_; have GW107 := n2_; have GE107 := n3_; clear n0_ n1_ n2_ n3_; clear hb hbox hg; have hcz34_0 := cz BK107.out 0 (.int .i64 a0_0)) | (go_at_call 219; (with_reducible refine (spec_l05Has.calls k a1 114 false _ A4.out).mono ?_); rintro e w' ⟨rfl, ⟨nd, rfl⟩⟩) | (go_at_call 219; (with_reducible refine (spec_l05Has.calls k a1 105 true _ A31.out).mono ?_); rintro e w' ⟨rfl, ⟨nd, rfl⟩⟩))
      go_ret
      exact ⟨by first | rfl | (simp [errW_none, errW_some] <;> rfl) | (simp [*, errW_none, errW_some] <;> rfl), by repeat (first | (with_reducible first | exact HB.out | apply below_alloc | apply pw_below_drewN | apply below_drew1 | refine below_set ?_ GE107.out) | exact HB.out)⟩
     ·replace c32 := Bool.eq_false_iff.mpr c32
      subst c32
      have H1 : (if a0_0 = 0 then ((spec_l05Has.f k a1 48).bind fun t114 => (some t114)) else (some false)) = some r := by rw [if_neg (show ¬ (false = true) by decide)] at H; exact H
      clear H
      have H := H1
      clear H1
      by_cases c35 : a0_0 = 0
      ·rw [if_pos c35] at H
       have c35b0 : (a0_0 == 0) = true := beq_iff_eq.mpr c35
       have c35b1 : (a0_0 != 0) = false := bne_eq_false_iff_eq.mpr c35
       clear c35
       replace H := Option.bind_eq_some_iff.mp H
       obtain ⟨t114, A360, H⟩ := H
       replace H : (some t114) = some r := H
       have A36 := Aside0.mk A360
       clear A360
       obtain rfl := Option.some.inj H
       go_enter Try.func203, Try.ntmps203
       go_wp2_with (first | ((with_reducible refine gate_dst (N := 2) rfl ?_); refine box_event ?hg (N := 2) ?hd (cs := #[.int .i64 a0_0, .int .i64 a0_1, .int .i64 a0_2, .int .i64 a0_3, .int .i64 a0_4, .int .i64 a0_5, .int .i64 a0_6]) (t := 28) ?hr ?_; (case hd => rfl); (case hg => rfl); (case hr => first | (go_simp; done) | (go_simp; rfl)); intro gb107 hg w37 hbox hb; have n0_ := Aside0.mk (below_step by1 hb); have n1_ := Aside0.mk (hbox); have n2_ := Aside0.mk ((by0 : w.heap.size ≤ gb107)); have n3_ := Aside0.mk ((by0 : w.heap.size ≤ gb107)); clear HB; have HB := n0_; have BK107 := n1_; have GW107 := n2_; have GE107 := n3_; clear n0_ n1_ n2_ n3_; clear hb hbox hg; have hcz38_0 := cz BK107.out 0 (.int .i64 a0_0)) | (go_at_call 219; (with_reducible refine (spec_l05Has.calls k a1 114 false _ A4.out).mono ?_); rintro e w' ⟨rfl, ⟨nd, rfl⟩⟩) | (go_at_call 219; (with_reducible refine (spec_l05Has.calls k a1 105 false _ A31.out).mono ?_); rintro e w' ⟨rfl, ⟨nd, rfl⟩⟩) | (go_at_call 219; (with_reducible refine (spec_l05Has.calls k a1 48 t114 _ A36.out).mono ?_); rintro e w' ⟨rfl, ⟨nd, rfl⟩⟩))
       go_ret
       exact ⟨by first | rfl | (simp [errW_none, errW_some] <;> rfl) | (simp [*, errW_none, errW_some] <;> rfl), by repeat (first | (with_reducible first | exact HB.out | apply below_alloc | apply pw_below_drewN | apply below_drew1 | refine below_set ?_ GE107.out) | exact HB.out)⟩
      ·rw [if_neg c35] at H
       have c35b0 : (a0_0 == 0) = false := beq_eq_false_iff_ne.mpr c35
       have c35b1 : (a0_0 != 0) = true := bne_iff_ne.mpr c35
       obtain rfl := Option.some.inj H
       go_enter Try.func203, Try.ntmps203
       go_wp2_with (first | ((with_reducible refine gate_dst (N := 2) rfl ?_); refine box_event ?hg (N := 2) ?hd (cs := #[.int .i64 a0_0, .int .i64 a0_1, .int .i64 a0_2, .int .i64 a0_3, .int .i64 a0_4, .int .i64 a0_5, .int .i64 a0_6]) (t := 28) ?hr ?_; (case hd => rfl); (case hg => rfl); (case hr => first | (go_simp; done) | (go_simp; rfl)); intro gb107 hg w39 hbox hb; have n0_ := Aside0.mk (below_step by1 hb); have n1_ := Aside0.mk (hbox); have n2_ := Aside0.mk ((by0 : w.heap.size ≤ gb107)); have n3_ := Aside0.mk ((by0 : w.heap.size ≤ gb107)); clear HB; have HB := n0_; have BK107 := n1_; have GW107 := n2_; have GE107 := n3_; clear n0_ n1_ n2_ n3_; clear hb hbox hg; have hcz40_0 := cz BK107.out 0 (.int .i64 a0_0)) | (go_at_call 219; (with_reducible refine (spec_l05Has.calls k a1 114 false _ A4.out).mono ?_); rintro e w' ⟨rfl, ⟨nd, rfl⟩⟩) | (go_at_call 219; (with_reducible refine (spec_l05Has.calls k a1 105 false _ A31.out).mono ?_); rintro e w' ⟨rfl, ⟨nd, rfl⟩⟩))
       go_ret
       exact ⟨by first | rfl | (simp [errW_none, errW_some] <;> rfl) | (simp [*, errW_none, errW_some] <;> rfl), by repeat (first | (with_reducible first | exact HB.out | apply below_alloc | apply pw_below_drewN | apply below_drew1 | refine below_set ?_ GE107.out) | exact HB.out)⟩
    ·rw [if_neg c30] at H
     have c30b0 : (a0_0 == 3) = false := beq_eq_false_iff_ne.mpr c30
     have c30b1 : (a0_0 != 3) = true := bne_iff_ne.mpr c30
     by_cases c41 : a0_0 = 0
     ·rw [if_pos c41] at H
      have c41b0 : (a0_0 == 0) = true := beq_iff_eq.mpr c41
      have c41b1 : (a0_0 != 0) = false := bne_eq_false_iff_eq.mpr c41
      clear c41
      replace H := Option.bind_eq_some_iff.mp H
      obtain ⟨t115, A420, H⟩ := H
      replace H : (some t115) = some r := H
      have A42 := Aside0.mk A420
      clear A420
      obtain rfl := Option.some.inj H
      go_enter Try.func203, Try.ntmps203
      go_wp2_with (first | ((with_reducible refine gate_dst (N := 2) rfl ?_); refine box_event ?hg (N := 2) ?hd (cs := #[.int .i64 a0_0, .int .i64 a0_1, .int .i64 a0_2, .int .i64 a0_3, .int .i64 a0_4, .int .i64 a0_5, .int .i64 a0_6]) (t := 28) ?hr ?_; (case hd => rfl); (case hg => rfl); (case hr => first | (go_simp; done) | (go_simp; rfl)); intro gb107 hg w43 hbox hb; have n0_ := Aside0.mk (below_step by1 hb); have n1_ := Aside0.mk (hbox); have n2_ := Aside0.mk ((by0 : w.heap.size ≤ gb107)); have n3_ := Aside0.mk ((by0 : w.heap.size ≤ gb107)); clear HB; have HB := n0_; have BK107 := n1_; have GW107 := n2_; have GE107 := n3_; clear n0_ n1_ n2_ n3_; clear hb hbox hg; have hcz44_0 := cz BK107.out 0 (.int .i64 a0_0)) | (go_at_call 219; (with_reducible refine (spec_l05Has.calls k a1 114 false _ A4.out).mono ?_); rintro e w' ⟨rfl, ⟨nd, rfl⟩⟩) | (go_at_call 219; (with_reducible refine (spec_l05Has.calls k a1 48 t115 _ A42.out).mono ?_); rintro e w' ⟨rfl, ⟨nd, rfl⟩⟩))
      go_ret
      exact ⟨by first | rfl | (simp [errW_none, errW_some] <;> rfl) | (simp [*, errW_none, errW_some] <;> rfl), by repeat (first | (with_reducible first | exact HB.out | apply below_alloc | apply pw_below_drewN | apply below_drew1 | refine below_set ?_ GE107.out) | exact HB.out)⟩
     ·rw [if_neg c41] at H
      have c41b0 : (a0_0 == 0) = false := beq_eq_false_iff_ne.mpr c41
      have c41b1 : (a0_0 != 0) = true := bne_iff_ne.mpr c41
      obtain rfl := Option.some.inj H
      go_enter Try.func203, Try.ntmps203
      go_wp2_with (first | ((with_reducible refine gate_dst (N := 2) rfl ?_); refine box_event ?hg (N := 2) ?hd (cs := #[.int .i64 a0_0, .int .i64 a0_1, .int .i64 a0_2, .int .i64 a0_3, .int .i64 a0_4, .int .i64 a0_5, .int .i64 a0_6]) (t := 28) ?hr ?_; (case hd => rfl); (case hg => rfl); (case hr => first | (go_simp; done) | (go_simp; rfl)); intro gb107 hg w45 hbox hb; have n0_ := Aside0.mk (below_step by1 hb); have n1_ := Aside0.mk (hbox); have n2_ := Aside0.mk ((by0 : w.heap.size ≤ gb107)); have n3_ := Aside0.mk ((by0 : w.heap.size ≤ gb107)); clear HB; have HB := n0_; have BK107 := n1_; have GW107 := n2_; have GE107 := n3_; clear n0_ n1_ n2_ n3_; clear hb hbox hg; have hcz46_0 := cz BK107.out 0 (.int .i64 a0_0)) | (go_at_call 219; (with_reducible refine (spec_l05Has.calls k a1 114 false _ A4.out).mono ?_); rintro e w' ⟨rfl, ⟨nd, rfl⟩⟩))
      go_ret
      exact ⟨by first | rfl | (simp [errW_none, errW_some] <;> rfl) | (simp [*, errW_none, errW_some] <;> rfl), by repeat (first | (with_reducible first | exact HB.out | apply below_alloc | apply pw_below_drewN | apply below_drew1 | refine below_set ?_ GE107.out) | exact HB.out)⟩
 ·rw [if_neg c3] at H
  have c3b0 : (a0_0 == 1) = false := beq_eq_false_iff_ne.mpr c3
  have c3b1 : (a0_0 != 1) = true := bne_iff_ne.mpr c3
  by_cases c47 : a0_0 = 2
  ·rw [if_pos c47] at H
   have c47b0 : (a0_0 == 2) = true := beq_iff_eq.mpr c47
   have c47b1 : (a0_0 != 2) = false := bne_eq_false_iff_eq.mpr c47
   clear c47
   replace H := Option.bind_eq_some_iff.mp H
   obtain ⟨t116, A480, H⟩ := H
   replace H : (if t116 = true then (some true) else (if a0_0 = 3 then ((spec_l05Has.f k a1 105).bind fun t117 => (if t117 = true then (some true) else (if a0_0 = 0 then ((spec_l05Has.f k a1 48).bind fun t118 => (some t118)) else (some false)))) else (if a0_0 = 0 then ((spec_l05Has.f k a1 48).bind fun t119 => (some t119)) else (some false)))) = some r := H
   have A48 := Aside0.mk A480
   clear A480
   by_cases c49 : t116 = true
   ·subst c49
    have H1 : (some true) = some r := by rw [if_pos rfl] at H; exact H
    clear H
    have H := H1
    clear H1
    obtain rfl := Option.some.inj H
    go_enter Try.func203, Try.ntmps203
    go_wp2_with (first | ((with_reducible refine gate_dst (N := 2) rfl ?_); refine box_event ?hg (N := 2) ?hd (cs := #[.int .i64 a0_0, .int .i64 a0_1, .int .i64 a0_2, .int .i64 a0_3, .int .i64 a0_4, .int .i64 a0_5, .int .i64 a0_6]) (t := 28) ?hr ?_; (case hd => rfl); (case hg => rfl); (case hr => first | (go_simp; done) | (go_simp; rfl)); intro gb107 hg w50 hbox hb; have n0_ := Aside0.mk (below_step by1 hb); have n1_ := Aside0.mk (hbox); have n2_ := Aside0.mk ((by0 : w.heap.size ≤ gb107)); have n3_ := Aside0.mk ((by0 : w.heap.size ≤ gb107)); clear HB; have HB := n0_; have BK107 := n1_; have GW107 := n2_; have GE107 := n3_; clear n0_ n1_ n2_ n3_; clear hb hbox hg; have hcz51_0 := cz BK107.out 0 (.int .i64 a0_0)) | (go_at_call 219; (with_reducible refine (spec_l05Has.calls k a1 109 true _ A48.out).mono ?_); rintro e w' ⟨rfl, ⟨nd, rfl⟩⟩))
    go_ret
    exact ⟨by first | rfl | (simp [errW_none, errW_some] <;> rfl) | (simp [*, errW_none, errW_some] <;> rfl), by repeat (first | (with_reducible first | exact HB.out | apply below_alloc | apply pw_below_drewN | apply below_drew1 | refine below_set ?_ GE107.out) | exact HB.out)⟩
   ·replace c49 := Bool.eq_false_iff.mpr c49
    subst c49
    have H1 : (if a0_0 = 3 then ((spec_l05Has.f k a1 105).bind fun t117 => (if t117 = true then (some true) else (if a0_0 = 0 then ((spec_l05Has.f k a1 48).bind fun t118 => (some t118)) else (some false)))) else (if a0_0 = 0 then ((spec_l05Has.f k a1 48).bind fun t119 => (some t119)) else (some false))) = some r := by rw [if_neg (show ¬ (false = true) by decide)] at H; exact H
    clear H
    have H := H1
    clear H1
    by_cases c52 : a0_0 = 3
    ·rw [if_pos c52] at H
     have c52b0 : (a0_0 == 3) = true := beq_iff_eq.mpr c52
     have c52b1 : (a0_0 != 3) = false := bne_eq_false_iff_eq.mpr c52
     clear c52
     replace H := Option.bind_eq_some_iff.mp H
     obtain ⟨t117, A530, H⟩ := H
     replace H : (if t117 = true then (some true) else (if a0_0 = 0 then ((spec_l05Has.f k a1 48).bind fun t118 => (some t118)) else (some false))) = some r := H
     have A53 := Aside0.mk A530
     clear A530
     by_cases c54 : t117 = true
     ·subst c54
      have H1 : (some true) = some r := by rw [if_pos rfl] at H; exact H
      clear H
      have H := H1
      clear H1
      obtain rfl := Option.some.inj H
      go_enter Try.func203, Try.ntmps203
      go_wp2_with (first | ((with_reducible refine gate_dst (N := 2) rfl ?_); refine box_event ?hg (N := 2) ?hd (cs := #[.int .i64 a0_0, .int .i64 a0_1, .int .i64 a0_2, .int .i64 a0_3, .int .i64 a0_4, .int .i64 a0_5, .int .i64 a0_6]) (t := 28) ?hr ?_; (case hd => rfl); (case hg => rfl); (case hr => first | (go_simp; done) | (go_simp; rfl)); intro gb107 hg w55 hbox hb; have n0_ := Aside0.mk (below_step by1 hb); have n1_ := Aside0.mk (hbox); have n2_ := Aside0.mk ((by0 : w.heap.size ≤ gb107)); have n3_ := Aside0.mk ((by0 : w.heap.size ≤ gb107)); clear HB; have HB := n0_; have BK107 := n1_; have GW107 := n2_; have GE107 := n3_; clear n0_ n1_ n2_ n3_; clear hb hbox hg; have hcz56_0 := cz BK107.out 0 (.int .i64 a0_0)) | (go_at_call 219; (with_reducible refine (spec_l05Has.calls k a1 109 false _ A48.out).mono ?_); rintro e w' ⟨rfl, ⟨nd, rfl⟩⟩) | (go_at_call 219; (with_reducible refine (spec_l05Has.calls k a1 105 true _ A53.out).mono ?_); rintro e w' ⟨rfl, ⟨nd, rfl⟩⟩))
      go_ret
      exact ⟨by first | rfl | (simp [errW_none, errW_some] <;> rfl) | (simp [*, errW_none, errW_some] <;> rfl), by repeat (first | (with_reducible first | exact HB.out | apply below_alloc | apply pw_below_drewN | apply below_drew1 | refine below_set ?_ GE107.out) | exact HB.out)⟩
     ·replace c54 := Bool.eq_false_iff.mpr c54
      subst c54
      have H1 : (if a0_0 = 0 then ((spec_l05Has.f k a1 48).bind fun t118 => (some t118)) else (some false)) = some r := by rw [if_neg (show ¬ (false = true) by decide)] at H; exact H
      clear H
      have H := H1
      clear H1
      by_cases c57 : a0_0 = 0
      ·rw [if_pos c57] at H
       have c57b0 : (a0_0 == 0) = true := beq_iff_eq.mpr c57
       have c57b1 : (a0_0 != 0) = false := bne_eq_false_iff_eq.mpr c57
       clear c57
       replace H := Option.bind_eq_some_iff.mp H
       obtain ⟨t118, A580, H⟩ := H
       replace H : (some t118) = some r := H
       have A58 := Aside0.mk A580
       clear A580
       obtain rfl := Option.some.inj H
       go_enter Try.func203, Try.ntmps203
       go_wp2_with (first | ((with_reducible refine gate_dst (N := 2) rfl ?_); refine box_event ?hg (N := 2) ?hd (cs := #[.int .i64 a0_0, .int .i64 a0_1, .int .i64 a0_2, .int .i64 a0_3, .int .i64 a0_4, .int .i64 a0_5, .int .i64 a0_6]) (t := 28) ?hr ?_; (case hd => rfl); (case hg => rfl); (case hr => first | (go_simp; done) | (go_simp; rfl)); intro gb107 hg w59 hbox hb; have n0_ := Aside0.mk (below_step by1 hb); have n1_ := Aside0.mk (hbox); have n2_ := Aside0.mk ((by0 : w.heap.size ≤ gb107)); have n3_ := Aside0.mk ((by0 : w.heap.size ≤ gb107)); clear HB; have HB := n0_; have BK107 := n1_; have GW107 := n2_; have GE107 := n3_; clear n0_ n1_ n2_ n3_; clear hb hbox hg; have hcz60_0 := cz BK107.out 0 (.int .i64 a0_0)) | (go_at_call 219; (with_reducible refine (spec_l05Has.calls k a1 109 false _ A48.out).mono ?_); rintro e w' ⟨rfl, ⟨nd, rfl⟩⟩) | (go_at_call 219; (with_reducible refine (spec_l05Has.calls k a1 105 false _ A53.out).mono ?_); rintro e w' ⟨rfl, ⟨nd, rfl⟩⟩) | (go_at_call 219; (with_reducible refine (spec_l05Has.calls k a1 48 t118 _ A58.out).mono ?_); rintro e w' ⟨rfl, ⟨nd, rfl⟩⟩))
       go_ret
       exact ⟨by first | rfl | (simp [errW_none, errW_some] <;> rfl) | (simp [*, errW_none, errW_some] <;> rfl), by repeat (first | (with_reducible first | exact HB.out | apply below_alloc | apply pw_below_drewN | apply below_drew1 | refine below_set ?_ GE107.out) | exact HB.out)⟩
      ·rw [if_neg c57] at H
       have c57b0 : (a0_0 == 0) = false := beq_eq_false_iff_ne.mpr c57
       have c57b1 : (a0_0 != 0) = true := bne_iff_ne.mpr c57
       obtain rfl := Option.some.inj H
       go_enter Try.func203, Try.ntmps203
       go_wp2_with (first | ((with_reducible refine gate_dst (N := 2) rfl ?_); refine box_event ?hg (N := 2) ?hd (cs := #[.int .i64 a0_0, .int .i64 a0_1, .int .i64 a0_2, .int .i64 a0_3, .int .i64 a0_4, .int .i64 a0_5, .int .i64 a0_6]) (t := 28) ?hr ?_; (case hd => rfl); (case hg => rfl); (case hr => first | (go_simp; done) | (go_simp; rfl)); intro gb107 hg w61 hbox hb; have n0_ := Aside0.mk (below_step by1 hb); have n1_ := Aside0.mk (hbox); have n2_ := Aside0.mk ((by0 : w.heap.size ≤ gb107)); have n3_ := Aside0.mk ((by0 : w.heap.size ≤ gb107)); clear HB; have HB := n0_; have BK107 := n1_; have GW107 := n2_; have GE107 := n3_; clear n0_ n1_ n2_ n3_; clear hb hbox hg; have hcz62_0 := cz BK107.out 0 (.int .i64 a0_0)) | (go_at_call 219; (with_reducible refine (spec_l05Has.calls k a1 109 false _ A48.out).mono ?_); rintro e w' ⟨rfl, ⟨nd, rfl⟩⟩) | (go_at_call 219; (with_reducible refine (spec_l05Has.calls k a1 105 false _ A53.out).mono ?_); rintro e w' ⟨rfl, ⟨nd, rfl⟩⟩))
       go_ret
       exact ⟨by first | rfl | (simp [errW_none, errW_some] <;> rfl) | (simp [*, errW_none, errW_some] <;> rfl), by repeat (first | (with_reducible first | exact HB.out | apply below_alloc | apply pw_below_drewN | apply below_drew1 | refine below_set ?_ GE107.out) | exact HB.out)⟩
    ·rw [if_neg c52] at H
     have c52b0 : (a0_0 == 3) = false := beq_eq_false_iff_ne.mpr c52
     have c52b1 : (a0_0 != 3) = true := bne_iff_ne.mpr c52
     by_cases c63 : a0_0 = 0
     ·rw [if_pos c63] at H
      have c63b0 : (a0_0 == 0) = true := beq_iff_eq.mpr c63
      have c63b1 : (a0_0 != 0) = false := bne_eq_false_iff_eq.mpr c63
      clear c63
      replace H := Option.bind_eq_some_iff.mp H
      obtain ⟨t119, A640, H⟩ := H
      replace H : (some t119) = some r := H
      have A64 := Aside0.mk A640
      clear A640
      obtain rfl := Option.some.inj H
      go_enter Try.func203, Try.ntmps203
      go_wp2_with (first | ((with_reducible refine gate_dst (N := 2) rfl ?_); refine box_event ?hg (N := 2) ?hd (cs := #[.int .i64 a0_0, .int .i64 a0_1, .int .i64 a0_2, .int .i64 a0_3, .int .i64 a0_4, .int .i64 a0_5, .int .i64 a0_6]) (t := 28) ?hr ?_; (case hd => rfl); (case hg => rfl); (case hr => first | (go_simp; done) | (go_simp; rfl)); intro gb107 hg w65 hbox hb; have n0_ := Aside0.mk (below_step by1 hb); have n1_ := Aside0.mk (hbox); have n2_ := Aside0.mk ((by0 : w.heap.size ≤ gb107)); have n3_ := Aside0.mk ((by0 : w.heap.size ≤ gb107)); clear HB; have HB := n0_; have BK107 := n1_; have GW107 := n2_; have GE107 := n3_; clear n0_ n1_ n2_ n3_; clear hb hbox hg; have hcz66_0 := cz BK107.out 0 (.int .i64 a0_0)) | (go_at_call 219; (with_reducible refine (spec_l05Has.calls k a1 109 false _ A48.out).mono ?_); rintro e w' ⟨rfl, ⟨nd, rfl⟩⟩) | (go_at_call 219; (with_reducible refine (spec_l05Has.calls k a1 48 t119 _ A64.out).mono ?_); rintro e w' ⟨rfl, ⟨nd, rfl⟩⟩))
      go_ret
      exact ⟨by first | rfl | (simp [errW_none, errW_some] <;> rfl) | (simp [*, errW_none, errW_some] <;> rfl), by repeat (first | (with_reducible first | exact HB.out | apply below_alloc | apply pw_below_drewN | apply below_drew1 | refine below_set ?_ GE107.out) | exact HB.out)⟩
     ·rw [if_neg c63] at H
      have c63b0 : (a0_0 == 0) = false := beq_eq_false_iff_ne.mpr c63
      have c63b1 : (a0_0 != 0) = true := bne_iff_ne.mpr c63
      obtain rfl := Option.some.inj H
      go_enter Try.func203, Try.ntmps203
      go_wp2_with (first | ((with_reducible refine gate_dst (N := 2) rfl ?_); refine box_event ?hg (N := 2) ?hd (cs := #[.int .i64 a0_0, .int .i64 a0_1, .int .i64 a0_2, .int .i64 a0_3, .int .i64 a0_4, .int .i64 a0_5, .int .i64 a0_6]) (t := 28) ?hr ?_; (case hd => rfl); (case hg => rfl); (case hr => first | (go_simp; done) | (go_simp; rfl)); intro gb107 hg w67 hbox hb; have n0_ := Aside0.mk (below_step by1 hb); have n1_ := Aside0.mk (hbox); have n2_ := Aside0.mk ((by0 : w.heap.size ≤ gb107)); have n3_ := Aside0.mk ((by0 : w.heap.size ≤ gb107)); clear HB; have HB := n0_; have BK107 := n1_; have GW107 := n2_; have GE107 := n3_; clear n0_ n1_ n2_ n3_; clear hb hbox hg; have hcz68_0 := cz BK107.out 0 (.int .i64 a0_0)) | (go_at_call 219; (with_reducible refine (spec_l05Has.calls k a1 109 false _ A48.out).mono ?_); rintro e w' ⟨rfl, ⟨nd, rfl⟩⟩))
      go_ret
      exact ⟨by first | rfl | (simp [errW_none, errW_some] <;> rfl) | (simp [*, errW_none, errW_some] <;> rfl), by repeat (first | (with_reducible first | exact HB.out | apply below_alloc | apply pw_below_drewN | apply below_drew1 | refine below_set ?_ GE107.out) | exact HB.out)⟩
  ·rw [if_neg c47] at H
   have c47b0 : (a0_0 == 2) = false := beq_eq_false_iff_ne.mpr c47
   have c47b1 : (a0_0 != 2) = true := bne_iff_ne.mpr c47
   by_cases c69 : a0_0 = 3
   ·rw [if_pos c69] at H
    have c69b0 : (a0_0 == 3) = true := beq_iff_eq.mpr c69
    have c69b1 : (a0_0 != 3) = false := bne_eq_false_iff_eq.mpr c69
    clear c69
    replace H := Option.bind_eq_some_iff.mp H
    obtain ⟨t120, A700, H⟩ := H
    replace H : (if t120 = true then (some true) else (if a0_0 = 0 then ((spec_l05Has.f k a1 48).bind fun t121 => (some t121)) else (some false))) = some r := H
    have A70 := Aside0.mk A700
    clear A700
    by_cases c71 : t120 = true
    ·subst c71
     have H1 : (some true) = some r := by rw [if_pos rfl] at H; exact H
     clear H
     have H := H1
     clear H1
     obtain rfl := Option.some.inj H
     go_enter Try.func203, Try.ntmps203
     go_wp2_with (first | ((with_reducible refine gate_dst (N := 2) rfl ?_); refine box_event ?hg (N := 2) ?hd (cs := #[.int .i64 a0_0, .int .i64 a0_1, .int .i64 a0_2, .int .i64 a0_3, .int .i64 a0_4, .int .i64 a0_5, .int .i64 a0_6]) (t := 28) ?hr ?_; (case hd => rfl); (case hg => rfl); (case hr => first | (go_simp; done) | (go_simp; rfl)); intro gb107 hg w72 hbox hb; have n0_ := Aside0.mk (below_step by1 hb); have n1_ := Aside0.mk (hbox); have n2_ := Aside0.mk ((by0 : w.heap.size ≤ gb107)); have n3_ := Aside0.mk ((by0 : w.heap.size ≤ gb107)); clear HB; have HB := n0_; have BK107 := n1_; have GW107 := n2_; have GE107 := n3_; clear n0_ n1_ n2_ n3_; clear hb hbox hg; have hcz73_0 := cz BK107.out 0 (.int .i64 a0_0)) | (go_at_call 219; (with_reducible refine (spec_l05Has.calls k a1 105 true _ A70.out).mono ?_); rintro e w' ⟨rfl, ⟨nd, rfl⟩⟩))
     go_ret
     exact ⟨by first | rfl | (simp [errW_none, errW_some] <;> rfl) | (simp [*, errW_none, errW_some] <;> rfl), by repeat (first | (with_reducible first | exact HB.out | apply below_alloc | apply pw_below_drewN | apply below_drew1 | refine below_set ?_ GE107.out) | exact HB.out)⟩
    ·replace c71 := Bool.eq_false_iff.mpr c71
     subst c71
     have H1 : (if a0_0 = 0 then ((spec_l05Has.f k a1 48).bind fun t121 => (some t121)) else (some false)) = some r := by rw [if_neg (show ¬ (false = true) by decide)] at H; exact H
     clear H
     have H := H1
     clear H1
     by_cases c74 : a0_0 = 0
     ·rw [if_pos c74] at H
      have c74b0 : (a0_0 == 0) = true := beq_iff_eq.mpr c74
      have c74b1 : (a0_0 != 0) = false := bne_eq_false_iff_eq.mpr c74
      clear c74
      replace H := Option.bind_eq_some_iff.mp H
      obtain ⟨t121, A750, H⟩ := H
      replace H : (some t121) = some r := H
      have A75 := Aside0.mk A750
      clear A750
      obtain rfl := Option.some.inj H
      go_enter Try.func203, Try.ntmps203
      go_wp2_with (first | ((with_reducible refine gate_dst (N := 2) rfl ?_); refine box_event ?hg (N := 2) ?hd (cs := #[.int .i64 a0_0, .int .i64 a0_1, .int .i64 a0_2, .int .i64 a0_3, .int .i64 a0_4, .int .i64 a0_5, .int .i64 a0_6]) (t := 28) ?hr ?_; (case hd => rfl); (case hg => rfl); (case hr => first | (go_simp; done) | (go_simp; rfl)); intro gb107 hg w76 hbox hb; have n0_ := Aside0.mk (below_step by1 hb); have n1_ := Aside0.mk (hbox); have n2_ := Aside0.mk ((by0 : w.heap.size ≤ gb107)); have n3_ := Aside0.mk ((by0 : w.heap.size ≤ gb107)); clear HB; have HB := n0_; have BK107 := n1_; have GW107 := n2_; have GE107 := n3_; clear n0_ n1_ n2_ n3_; clear hb hbox hg; have hcz77_0 := cz BK107.out 0 (.int .i64 a0_0)) | (go_at_call 219; (with_reducible refine (spec_l05Has.calls k a1 105 false _ A70.out).mono ?_); rintro e w' ⟨rfl, ⟨nd, rfl⟩⟩) | (go_at_call 219; (with_reducible refine (spec_l05Has.calls k a1 48 t121 _ A75.out).mono ?_); rintro e w' ⟨rfl, ⟨nd, rfl⟩⟩))
      go_ret
      exact ⟨by first | rfl | (simp [errW_none, errW_some] <;> rfl) | (simp [*, errW_none, errW_some] <;> rfl), by repeat (first | (with_reducible first | exact HB.out | apply below_alloc | apply pw_below_drewN | apply below_drew1 | refine below_set ?_ GE107.out) | exact HB.out)⟩
     ·rw [if_neg c74] at H
      have c74b0 : (a0_0 == 0) = false := beq_eq_false_iff_ne.mpr c74
      have c74b1 : (a0_0 != 0) = true := bne_iff_ne.mpr c74
      obtain rfl := Option.some.inj H
      go_enter Try.func203, Try.ntmps203
      go_wp2_with (first | ((with_reducible refine gate_dst (N := 2) rfl ?_); refine box_event ?hg (N := 2) ?hd (cs := #[.int .i64 a0_0, .int .i64 a0_1, .int .i64 a0_2, .int .i64 a0_3, .int .i64 a0_4, .int .i64 a0_5, .int .i64 a0_6]) (t := 28) ?hr ?_; (case hd => rfl); (case hg => rfl); (case hr => first | (go_simp; done) | (go_simp; rfl)); intro gb107 hg w78 hbox hb; have n0_ := Aside0.mk (below_step by1 hb); have n1_ := Aside0.mk (hbox); have n2_ := Aside0.mk ((by0 : w.heap.size ≤ gb107)); have n3_ := Aside0.mk ((by0 : w.heap.size ≤ gb107)); clear HB; have HB := n0_; have BK107 := n1_; have GW107 := n2_; have GE107 := n3_; clear n0_ n1_ n2_ n3_; clear hb hbox hg; have hcz79_0 := cz BK107.out 0 (.int .i64 a0_0)) | (go_at_call 219; (with_reducible refine (spec_l05Has.calls k a1 105 false _ A70.out).mono ?_); rintro e w' ⟨rfl, ⟨nd, rfl⟩⟩))
      go_ret
      exact ⟨by first | rfl | (simp [errW_none, errW_some] <;> rfl) | (simp [*, errW_none, errW_some] <;> rfl), by repeat (first | (with_reducible first | exact HB.out | apply below_alloc | apply pw_below_drewN | apply below_drew1 | refine below_set ?_ GE107.out) | exact HB.out)⟩
   ·rw [if_neg c69] at H
    have c69b0 : (a0_0 == 3) = false := beq_eq_false_iff_ne.mpr c69
    have c69b1 : (a0_0 != 3) = true := bne_iff_ne.mpr c69
    by_cases c80 : a0_0 = 0
    ·rw [if_pos c80] at H
     have c80b0 : (a0_0 == 0) = true := beq_iff_eq.mpr c80
     have c80b1 : (a0_0 != 0) = false := bne_eq_false_iff_eq.mpr c80
     clear c80
     replace H := Option.bind_eq_some_iff.mp H
     obtain ⟨t122, A810, H⟩ := H
     replace H : (some t122) = some r := H
     have A81 := Aside0.mk A810
     clear A810
     obtain rfl := Option.some.inj H
     go_enter Try.func203, Try.ntmps203
     go_wp2_with (first | ((with_reducible refine gate_dst (N := 2) rfl ?_); refine box_event ?hg (N := 2) ?hd (cs := #[.int .i64 a0_0, .int .i64 a0_1, .int .i64 a0_2, .int .i64 a0_3, .int .i64 a0_4, .int .i64 a0_5, .int .i64 a0_6]) (t := 28) ?hr ?_; (case hd => rfl); (case hg => rfl); (case hr => first | (go_simp; done) | (go_simp; rfl)); intro gb107 hg w82 hbox hb; have n0_ := Aside0.mk (below_step by1 hb); have n1_ := Aside0.mk (hbox); have n2_ := Aside0.mk ((by0 : w.heap.size ≤ gb107)); have n3_ := Aside0.mk ((by0 : w.heap.size ≤ gb107)); clear HB; have HB := n0_; have BK107 := n1_; have GW107 := n2_; have GE107 := n3_; clear n0_ n1_ n2_ n3_; clear hb hbox hg; have hcz83_0 := cz BK107.out 0 (.int .i64 a0_0)) | (go_at_call 219; (with_reducible refine (spec_l05Has.calls k a1 48 t122 _ A81.out).mono ?_); rintro e w' ⟨rfl, ⟨nd, rfl⟩⟩))
     go_ret
     exact ⟨by first | rfl | (simp [errW_none, errW_some] <;> rfl) | (simp [*, errW_none, errW_some] <;> rfl), by repeat (first | (with_reducible first | exact HB.out | apply below_alloc | apply pw_below_drewN | apply below_drew1 | refine below_set ?_ GE107.out) | exact HB.out)⟩
    ·rw [if_neg c80] at H
     have c80b0 : (a0_0 == 0) = false := beq_eq_false_iff_ne.mpr c80
     have c80b1 : (a0_0 != 0) = true := bne_iff_ne.mpr c80
     obtain rfl := Option.some.inj H
     go_enter Try.func203, Try.ntmps203
     go_wp2_with (first | ((with_reducible refine gate_dst (N := 2) rfl ?_); refine box_event ?hg (N := 2) ?hd (cs := #[.int .i64 a0_0, .int .i64 a0_1, .int .i64 a0_2, .int .i64 a0_3, .int .i64 a0_4, .int .i64 a0_5, .int .i64 a0_6]) (t := 28) ?hr ?_; (case hd => rfl); (case hg => rfl); (case hr => first | (go_simp; done) | (go_simp; rfl)); intro gb107 hg w84 hbox hb; have n0_ := Aside0.mk (below_step by1 hb); have n1_ := Aside0.mk (hbox); have n2_ := Aside0.mk ((by0 : w.heap.size ≤ gb107)); have n3_ := Aside0.mk ((by0 : w.heap.size ≤ gb107)); clear HB; have HB := n0_; have BK107 := n1_; have GW107 := n2_; have GE107 := n3_; clear n0_ n1_ n2_ n3_; clear hb hbox hg; have hcz85_0 := cz BK107.out 0 (.int .i64 a0_0)))
     go_ret
     exact ⟨by first | rfl | (simp [errW_none, errW_some] <;> rfl) | (simp [*, errW_none, errW_some] <;> rfl), by repeat (first | (with_reducible first | exact HB.out | apply below_alloc | apply pw_below_drewN | apply below_drew1 | refine below_set ?_ GE107.out) | exact HB.out)⟩

end Go.Proofs.Ytonogadabgilfaa.PFnExactMaskOf
