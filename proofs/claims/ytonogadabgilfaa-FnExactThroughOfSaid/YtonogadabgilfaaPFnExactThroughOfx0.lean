/- Laid by a program of this session (patch_print.py) out of the translation: plain functions and what the calls do. No condition. -/
import Derived.Shelf.Strings.Search2
import Derived.Shelf.Strings.Search3
import Derived.Shelf.Vars
import Derived.Test.YtonogadabgilfaaPFnExactBaseAddOfx0
import Derived.Test.YtonogadabgilfaaPFnExactBaseAddOfx1
import Derived.Test.YtonogadabgilfaaPFnExactBaseAddOfx6
import Derived.Test.YtonogadabgilfaaPFnExactBaseAddOfx7
import Derived.Test.YtonogadabgilfaaPFnExactBaseAddOfx14
import Derived.Laws.CopyOwn
namespace Go.Proofs.Ytonogadabgilfaa.PFnExactThroughOf
open Go.RowKit Go.Proofs.Ytonogadabgilfaa.PFnExactBaseAddOf Go.Proofs.YtonogadabgilfaaW.PrintWords Go.Proofs.YtonogadabgilfaaW.PrintLast Go.Proofs.YtonogadabgilfaaW.PrintMore
attribute [local go_sem] max2_int min2_int max_two min_two max_three min_three max_four min_four   -- for this text's walks alone
set_option linter.unusedVariables false
set_option linter.unusedSimpArgs false

theorem stw {P : Program} {ops : Array Oper} {rest : List Oper} {o : Oper} {a : Act} {Q : Exit → Act → World → Prop} {w W : World} (ty : TypeId) (x y : Operand) (hgd : o.guard = none) (ho : o.op = .store ty x y) {g : Nat} {cells old : Array Value} (hx : a.eval x = .pointer (some ⟨g, 0, none⟩)) (hy : a.eval y = .agg cells)
    (hg : W.heap[g]? = some (.cells old ty (0, 0))) (hi : (P.info? ty).map (·.size) = some cells.size) (hold : old.size = cells.size) (h1 : cells.all (·.oneCell') = true) (hge : w.heap.size ≤ g) (hB : Below w.heap.size w W)
    (h : ∀ w1, Below w.heap.size w w1 → w1.heap[g]? = some (.cells cells ty (0, 0)) → (∀ g' o', g' ≠ g → W.heap[g']? = some o' → w1.heap[g']? = some o') → wpList P ops Q rest (a.put o.dst undef) w1) : wpList P ops Q (o :: rest) a W := by
  refine wpList_store_row hgd ty x y ho g cells hx hy ty old hg hi hold h1 (h _ ?_ ?_ ?_)
  · exact below_setRow hB hge cells
  · exact setRow_heap W g old cells ty (0, 0) hg
  · exact fun g' o' hne h' => (setRow_other W g g' cells hne).trans h'
/-! ### spec_l03Class: function 155 -/
def spec_l03Class.j0 : Nat → Int → Bool → Option (Int)
 | 0, _, _ => none
 | k + 1, x3, x4 => if x4 = true then (some 2) else (if x3 = 34 then (some 3) else (if x3 = 41 then (some 3) else (if x3 = 42 then (some 3) else (if x3 = 43 then (some 3) else (if x3 = 44 then (some 3) else (some 1))))))
def spec_l03Class.f (k : Nat) (a0 : Int) : Option (Int) := if a0 = 31 then (spec_l03Class.j0 k a0 (a0 == 31)) else (if a0 = 32 then (spec_l03Class.j0 k a0 (a0 == 32)) else (spec_l03Class.j0 k a0 (a0 == 33)))
theorem spec_l03Class.mono_l : ∀ k, (∀ y0 y1, LeO (spec_l03Class.j0 k y0 y1) (spec_l03Class.j0 (k + 1) y0 y1))
 | 0 => fun _ _ r h => by simp [spec_l03Class.j0] at h
 | k + 1 => by
  have ih0 := spec_l03Class.mono_l k
  ·intro y0 y1
   unfold spec_l03Class.j0
   repeat' first
   | (with_reducible exact ih0 _ _)
   | (with_reducible exact LeO.refl _)
   | (with_reducible exact LeO.none _)
   | (with_reducible refine LeO.ite ?_ ?_)
   | (with_reducible refine LeO.bind ?_ (fun _ => ?_))
   | refine LeO.ite ?_ ?_
   | refine LeO.bind ?_ (fun _ => ?_)
theorem spec_l03Class.mono : ∀ a0 k, LeO (spec_l03Class.f k a0) (spec_l03Class.f (k + 1) a0) := by
 intro a0 k
 have ih0 := spec_l03Class.mono_l k
 unfold spec_l03Class.f
 repeat' first
   | (with_reducible exact ih0 _ _)
   | (with_reducible exact LeO.refl _)
   | (with_reducible exact LeO.none _)
   | (with_reducible refine LeO.ite ?_ ?_)
   | (with_reducible refine LeO.bind ?_ (fun _ => ?_))
   | refine LeO.ite ?_ ?_
   | refine LeO.bind ?_ (fun _ => ?_)
set_option maxHeartbeats 8000000 in
set_option maxRecDepth 100000 in
theorem spec_l03Class.calls (k : Nat) (a0 : Int) (r : Int) (w : World) (h : spec_l03Class.f k a0 = some r) :
  Calls Try.prog 155 #[.int .i64 a0] w fun e w' => e = .returned (.int .i64 r) ∧ Drawn0 w w' := by
 have H : (if a0 = 31 then (spec_l03Class.j0 k a0 (a0 == 31)) else (if a0 = 32 then (spec_l03Class.j0 k a0 (a0 == 32)) else (spec_l03Class.j0 k a0 (a0 == 33)))) = some r := h
 clear h
 have HC2 := Aside0.mk H
 clear H
 go_enter Try.func155, Try.ntmps155
 go_upto_if 4 with (fail)
 go_cut [4] (fun v4 wc => ∃ (kq : Nat) (x4_1 : Bool), v4 = .bool x4_1 ∧ Aside0 (spec_l03Class.j0 kq a0 x4_1 = some r) ∧ Aside0 (kq ≤ k) ∧ Drawn0 w wc)
 case first =>
  have H := HC2.out
  clear HC2
  by_cases c3 : a0 = 31
  ·rw [if_pos c3] at H
   have c3b0 : (a0 == 31) = true := beq_iff_eq.mpr c3
   have c3b1 : (a0 != 31) = false := bne_eq_false_iff_eq.mpr c3
   clear c3
   (first | rw [c3b0] | (simp only [i64_w, i32_w]; rw [c3b0]) | rw [c3b1] | skip)
   have H' := Aside0.mk H
   clear H
   go_wp2
   go_meet
   case rel => exact ⟨_, ((a0 == 31)), by8, H', ⟨by first | omega | exact Nat.le_refl _⟩, by repeat (first | exact Drawn0.refl _ | apply Drawn0.step)⟩
  ·rw [if_neg c3] at H
   have c3b0 : (a0 == 31) = false := beq_eq_false_iff_ne.mpr c3
   have c3b1 : (a0 != 31) = true := bne_iff_ne.mpr c3
   (first | rw [c3b0] | (simp only [i64_w, i32_w]; rw [c3b0]) | rw [c3b1] | skip)
   by_cases c4 : a0 = 32
   ·rw [if_pos c4] at H
    have c4b0 : (a0 == 32) = true := beq_iff_eq.mpr c4
    have c4b1 : (a0 != 32) = false := bne_eq_false_iff_eq.mpr c4
    clear c4
    have H' := Aside0.mk H
    clear H
    go_wp2
    go_meet
    case rel => exact ⟨_, ((a0 == 32)), by8, H', ⟨by first | omega | exact Nat.le_refl _⟩, by repeat (first | exact Drawn0.refl _ | apply Drawn0.step)⟩
   ·rw [if_neg c4] at H
    have c4b0 : (a0 == 32) = false := beq_eq_false_iff_ne.mpr c4
    have c4b1 : (a0 != 32) = true := bne_iff_ne.mpr c4
    have H' := Aside0.mk H
    clear H
    go_wp2
    go_meet
    case rel => exact ⟨_, ((a0 == 33)), by8, H', ⟨by first | omega | exact Nat.le_refl _⟩, by repeat (first | exact Drawn0.refl _ | apply Drawn0.step)⟩
 case rest =>
  clear HC2
  (try clear c3); (try clear c3b0); (try clear c3b1); (try clear c4); (try clear c4b0); (try clear c4b1)
  obtain ⟨kq, x4_1, rfl, HA, HJ1, ⟨mc1, rfl⟩⟩ := hcut
  cases kq with
  | zero => exact absurd HA.out (by simp [spec_l03Class.j0])
  | succ kj1 =>
   have H := HA.out
   clear HA
   simp only [spec_l03Class.j0] at H
   by_cases c5 : x4_1 = true
   ·subst c5
    have H1 : (some 2) = some r := by rw [if_pos rfl] at H; exact H
    clear H
    have H := H1
    clear H1
    obtain rfl := Option.some.inj H
    go_wp2
    go_ret
    exact ⟨by first | rfl | (simp; done) | (simp [*]; done), by repeat (first | exact Drawn0.refl _ | apply Drawn0.step)⟩
   ·replace c5 := Bool.eq_false_iff.mpr c5
    subst c5
    have H1 : (if a0 = 34 then (some 3) else (if a0 = 41 then (some 3) else (if a0 = 42 then (some 3) else (if a0 = 43 then (some 3) else (if a0 = 44 then (some 3) else (some 1)))))) = some r := by rw [if_neg (show ¬ (false = true) by decide)] at H; exact H
    clear H
    have H := H1
    clear H1
    by_cases c6 : a0 = 34
    ·rw [if_pos c6] at H
     have c6b0 : (a0 == 34) = true := beq_iff_eq.mpr c6
     have c6b1 : (a0 != 34) = false := bne_eq_false_iff_eq.mpr c6
     clear c6
     obtain rfl := Option.some.inj H
     go_wp2
     go_ret
     exact ⟨by first | rfl | (simp; done) | (simp [*]; done), by repeat (first | exact Drawn0.refl _ | apply Drawn0.step)⟩
    ·rw [if_neg c6] at H
     have c6b0 : (a0 == 34) = false := beq_eq_false_iff_ne.mpr c6
     have c6b1 : (a0 != 34) = true := bne_iff_ne.mpr c6
     by_cases c7 : a0 = 41
     ·rw [if_pos c7] at H
      have c7b0 : (a0 == 41) = true := beq_iff_eq.mpr c7
      have c7b1 : (a0 != 41) = false := bne_eq_false_iff_eq.mpr c7
      clear c7
      obtain rfl := Option.some.inj H
      go_wp2
      go_ret
      exact ⟨by first | rfl | (simp; done) | (simp [*]; done), by repeat (first | exact Drawn0.refl _ | apply Drawn0.step)⟩
     ·rw [if_neg c7] at H
      have c7b0 : (a0 == 41) = false := beq_eq_false_iff_ne.mpr c7
      have c7b1 : (a0 != 41) = true := bne_iff_ne.mpr c7
      by_cases c8 : a0 = 42
      ·rw [if_pos c8] at H
       have c8b0 : (a0 == 42) = true := beq_iff_eq.mpr c8
       have c8b1 : (a0 != 42) = false := bne_eq_false_iff_eq.mpr c8
       clear c8
       obtain rfl := Option.some.inj H
       go_wp2
       go_ret
       exact ⟨by first | rfl | (simp; done) | (simp [*]; done), by repeat (first | exact Drawn0.refl _ | apply Drawn0.step)⟩
      ·rw [if_neg c8] at H
       have c8b0 : (a0 == 42) = false := beq_eq_false_iff_ne.mpr c8
       have c8b1 : (a0 != 42) = true := bne_iff_ne.mpr c8
       by_cases c9 : a0 = 43
       ·rw [if_pos c9] at H
        have c9b0 : (a0 == 43) = true := beq_iff_eq.mpr c9
        have c9b1 : (a0 != 43) = false := bne_eq_false_iff_eq.mpr c9
        clear c9
        obtain rfl := Option.some.inj H
        go_wp2
        go_ret
        exact ⟨by first | rfl | (simp; done) | (simp [*]; done), by repeat (first | exact Drawn0.refl _ | apply Drawn0.step)⟩
       ·rw [if_neg c9] at H
        have c9b0 : (a0 == 43) = false := beq_eq_false_iff_ne.mpr c9
        have c9b1 : (a0 != 43) = true := bne_iff_ne.mpr c9
        by_cases c10 : a0 = 44
        ·rw [if_pos c10] at H
         have c10b0 : (a0 == 44) = true := beq_iff_eq.mpr c10
         have c10b1 : (a0 != 44) = false := bne_eq_false_iff_eq.mpr c10
         clear c10
         obtain rfl := Option.some.inj H
         go_wp2
         go_ret
         exact ⟨by first | rfl | (simp; done) | (simp [*]; done), by repeat (first | exact Drawn0.refl _ | apply Drawn0.step)⟩
        ·rw [if_neg c10] at H
         have c10b0 : (a0 == 44) = false := beq_eq_false_iff_ne.mpr c10
         have c10b1 : (a0 != 44) = true := bne_iff_ne.mpr c10
         obtain rfl := Option.some.inj H
         go_wp2
         go_ret
         exact ⟨by first | rfl | (simp; done) | (simp [*]; done), by repeat (first | exact Drawn0.refl _ | apply Drawn0.step)⟩

/-! ### spec_l08Flow: function 102 -/
def spec_l08Flow.f (k : Nat) (a0 : Int) : Option (Bool) := (spec_l03Class.f k a0).bind fun t161 => (some (t161 == 2))
theorem spec_l08Flow.mono : ∀ a0 k, LeO (spec_l08Flow.f k a0) (spec_l08Flow.f (k + 1) a0) := by
 intro a0 k
 unfold spec_l08Flow.f
 repeat' first
   | (with_reducible exact spec_l03Class.mono _ _)
   | (with_reducible exact LeO.refl _)
   | (with_reducible exact LeO.none _)
   | (with_reducible refine LeO.ite ?_ ?_)
   | (with_reducible refine LeO.bind ?_ (fun _ => ?_))
   | refine LeO.ite ?_ ?_
   | refine LeO.bind ?_ (fun _ => ?_)
set_option maxHeartbeats 8000000 in
set_option maxRecDepth 100000 in
theorem spec_l08Flow.calls (k : Nat) (a0 : Int) (r : Bool) (w : World) (h : spec_l08Flow.f k a0 = some r) :
  Calls Try.prog 102 #[.int .i64 a0] w fun e w' => e = .returned (.bool r) ∧ Drawn0 w w' := by
 have H : ((spec_l03Class.f k a0).bind fun t161 => (some (t161 == 2))) = some r := h
 clear h
 replace H := Option.bind_eq_some_iff.mp H
 obtain ⟨t161, A20, H⟩ := H
 replace H : (some (t161 == 2)) = some r := H
 have A2 := Aside0.mk A20
 clear A20
 obtain rfl := Option.some.inj H
 go_enter Try.func102, Try.ntmps102
 go_wp2_with (first | ((with_reducible refine gate_callee (f := 155) rfl ?_); refine goesL_ (some 4) rfl rfl Try.func155 by4 rfl #[.int .i64 a0] rfl by1 ?_; (with_reducible refine (spec_l03Class.calls k a0 t161 _ A2.out).mono ?_); rintro e w' ⟨rfl, ⟨nd, rfl⟩⟩; refine ⟨_, rfl, ?_⟩))
 go_ret
 exact ⟨by first | rfl | (simp; done) | (simp [*]; done), by repeat (first | exact Drawn0.refl _ | apply Drawn0.step)⟩

/-! ### spec_l08Through: function 60 -/
def spec_l08Through.f (k : Nat) (a0_0 : Int) (a0_1 : Int) (a0_2 : Int) (a0_3 : Int) (a0_4 : Int) (a0_5 : Int) (a0_6 : Int) (a0_7 : Int) (a0_8 : Int) (a0_9 : Int) (a0_10 : Int) (a0_11 : Int) (a0_12 : Int) (a0_13 : Int) (a0_14 : Int) (a0_15 : Int) (a0_16 : Int) (a0_17 : Int) (a0_18 : Int) : Option (Int × Int × Int × Int × Int × Int × Int × Bool) := (spec_l08Flow.f k a0_0).bind fun t164 => (if t164 = true then (if a0_11 = 3 then (some (0, 0, 0, 0, 0, 0, 0, false)) else (some (a0_11, a0_12, a0_13, a0_14, a0_15, a0_16, a0_17, true))) else (some (0, 0, 0, 0, 0, 0, 0, false)))
theorem spec_l08Through.mono : ∀ a0 a1 a2 a3 a4 a5 a6 a7 a8 a9 a10 a11 a12 a13 a14 a15 a16 a17 a18 k, LeO (spec_l08Through.f k a0 a1 a2 a3 a4 a5 a6 a7 a8 a9 a10 a11 a12 a13 a14 a15 a16 a17 a18) (spec_l08Through.f (k + 1) a0 a1 a2 a3 a4 a5 a6 a7 a8 a9 a10 a11 a12 a13 a14 a15 a16 a17 a18) := by
 intro a0 a1 a2 a3 a4 a5 a6 a7 a8 a9 a10 a11 a12 a13 a14 a15 a16 a17 a18 k
 unfold spec_l08Through.f
 repeat' first
   | (with_reducible exact spec_l08Flow.mono _ _)
   | (with_reducible exact LeO.refl _)
   | (with_reducible exact LeO.none _)
   | (with_reducible refine LeO.ite ?_ ?_)
   | (with_reducible refine LeO.bind ?_ (fun _ => ?_))
   | refine LeO.ite ?_ ?_
   | refine LeO.bind ?_ (fun _ => ?_)
set_option maxHeartbeats 8000000 in
set_option maxRecDepth 100000 in
theorem spec_l08Through.calls (k : Nat) (a0_0 : Int) (a0_1 : Int) (a0_2 : Int) (a0_3 : Int) (a0_4 : Int) (a0_5 : Int) (a0_6 : Int) (a0_7 : Int) (a0_8 : Int) (a0_9 : Int) (a0_10 : Int) (a0_11 : Int) (a0_12 : Int) (a0_13 : Int) (a0_14 : Int) (a0_15 : Int) (a0_16 : Int) (a0_17 : Int) (a0_18 : Int) (r1 : Int) (r2 : Int) (r3 : Int) (r4 : Int) (r5 : Int) (r6 : Int) (r7 : Int) (r8 : Bool) (w : World) (h : spec_l08Through.f k a0_0 a0_1 a0_2 a0_3 a0_4 a0_5 a0_6 a0_7 a0_8 a0_9 a0_10 a0_11 a0_12 a0_13 a0_14 a0_15 a0_16 a0_17 a0_18 = some (r1, r2, r3, r4, r5, r6, r7, r8)) :
  Calls Try.prog 60 #[.agg #[.int .i64 a0_0, .int .i64 a0_1, .int .i64 a0_2, .int .i64 a0_3, .int .i64 a0_4, .int .i64 a0_5, .int .i64 a0_6, .int .i64 a0_7, .int .i64 a0_8, .int .i64 a0_9, .int .i64 a0_10, .int .i64 a0_11, .int .i64 a0_12, .int .i64 a0_13, .int .i64 a0_14, .int .i64 a0_15, .int .i64 a0_16, .int .i64 a0_17, .int .i64 a0_18]] w fun e w' => e = .returned (.tuple #[.agg #[.int .i64 r1, .int .i64 r2, .int .i64 r3, .int .i64 r4, .int .i64 r5, .int .i64 r6, .int .i64 r7], .bool r8]) ∧ Below w.heap.size w w' := by
 have hu30 := Try.underlying30
 have hu28 := Try.underlying28
 have HB := Aside0.mk (Below.refl w.heap.size w)
 have H : ((spec_l08Flow.f k a0_0).bind fun t164 => (if t164 = true then (if a0_11 = 3 then (some (0, 0, 0, 0, 0, 0, 0, false)) else (some (a0_11, a0_12, a0_13, a0_14, a0_15, a0_16, a0_17, true))) else (some (0, 0, 0, 0, 0, 0, 0, false)))) = some (r1, r2, r3, r4, r5, r6, r7, r8) := h
 clear h
 replace H := Option.bind_eq_some_iff.mp H
 obtain ⟨t164, A20, H⟩ := H
 replace H : (if t164 = true then (if a0_11 = 3 then (some (0, 0, 0, 0, 0, 0, 0, false)) else (some (a0_11, a0_12, a0_13, a0_14, a0_15, a0_16, a0_17, true))) else (some (0, 0, 0, 0, 0, 0, 0, false))) = some (r1, r2, r3, r4, r5, r6, r7, r8) := H
 have A2 := Aside0.mk A20
 clear A20
 by_cases c3 : t164 = true
 ·subst c3
  have H1 : (if a0_11 = 3 then (some (0, 0, 0, 0, 0, 0, 0, false)) else (some (a0_11, a0_12, a0_13, a0_14, a0_15, a0_16, a0_17, true))) = some (r1, r2, r3, r4, r5, r6, r7, r8) := by rw [if_pos rfl] at H; exact H
  clear H
  have H := H1
  clear H1
  by_cases c4 : a0_11 = 3
  ·rw [if_pos c4] at H
   have c4b0 : (a0_11 == 3) = true := beq_iff_eq.mpr c4
   have c4b1 : (a0_11 != 3) = false := bne_eq_false_iff_eq.mpr c4
   clear c4
   simp only [Option.some.injEq, Prod.mk.injEq] at H
   obtain ⟨rfl, rfl, rfl, rfl, rfl, rfl, rfl, rfl⟩ := H
   go_enter Try.func60, Try.ntmps60
   go_wp2_with (first | ((with_reducible refine gate_dst (N := 1) rfl ?_); refine bx30 (w := w) (N := 1) rfl rfl rfl rfl by0 ?_; intro gb162 w5 n0_ BK162 GW162 GE162; clear HB; have HB := n0_; clear n0_) | ((with_reducible refine gate_dst (N := 2) rfl ?_); refine box_event ?hg (N := 2) ?hd (cs := #[.int .i64 0, .int .i64 0, .int .i64 0, .int .i64 0, .int .i64 0, .int .i64 0, .int .i64 0]) (t := 28) ?hr ?_; (case hd => rfl); (case hg => rfl); (case hr => first | (go_simp; done) | (go_simp; rfl)); intro gb163 hg w6 hbox hb; have n0_ := Aside0.mk (blk_below by62 hb); have n1_ := Aside0.mk (below_step by78 hb); have n2_ := Aside0.mk (hbox); have n3_ := Aside0.mk ((by42 : w.heap.size ≤ gb163)); have n4_ := Aside0.mk ((by42 : w.heap.size ≤ gb163)); have n5_ := Aside0.mk ((by81 : gb162 ≠ gb163)); have n6_ := Aside0.mk ((by82 : gb163 ≠ gb162)); clear BK162; clear HB; have BK162 := n0_; have HB := n1_; have BK163 := n2_; have GW163 := n3_; have GE163 := n4_; have NB162_163 := n5_; have NB163_162 := n6_; clear n0_ n1_ n2_ n3_ n4_ n5_ n6_; clear hb hbox hg; have hnb7 := NB162_163.out; have hnc7 := NB163_162.out; have hcz8_0 := cz BK162.out 0 (.int .i64 a0_0); have hcz8_11 := cz BK162.out 11 (.int .i64 a0_11); have hcz8_12 := cz BK162.out 12 (.int .i64 a0_12); have hcz8_13 := cz BK162.out 13 (.int .i64 a0_13); have hcz8_14 := cz BK162.out 14 (.int .i64 a0_14); have hcz8_15 := cz BK162.out 15 (.int .i64 a0_15); have hcz8_16 := cz BK162.out 16 (.int .i64 a0_16); have hcz8_17 := cz BK162.out 17 (.int .i64 a0_17)) | ((with_reducible refine gate_callee (f := 102) rfl ?_); refine goesL_ (some 6) rfl rfl Try.func102 by4 rfl #[.int .i64 a0_0] rfl by1 ?_; (with_reducible refine (spec_l08Flow.calls k a0_0 true _ A2.out).mono ?_); rintro e w' ⟨rfl, ⟨nd, rfl⟩⟩; refine ⟨_, rfl, ?_⟩; (try (rw [drewN_self w6]; generalize hq_ : World.drewN w6 _ = w6; have n0_ : Aside0 (w6.heap[gb162]? = some (.cells #[.int .i64 a0_0, .int .i64 a0_1, .int .i64 a0_2, .int .i64 a0_3, .int .i64 a0_4, .int .i64 a0_5, .int .i64 a0_6, .int .i64 a0_7, .int .i64 a0_8, .int .i64 a0_9, .int .i64 a0_10, .int .i64 a0_11, .int .i64 a0_12, .int .i64 a0_13, .int .i64 a0_14, .int .i64 a0_15, .int .i64 a0_16, .int .i64 a0_17, .int .i64 a0_18] 30 (0, 0))) := ⟨by rw [← hq_]; exact by62⟩; have n1_ : Aside0 (w6.heap[gb163]? = some (.cells #[.int .i64 0, .int .i64 0, .int .i64 0, .int .i64 0, .int .i64 0, .int .i64 0, .int .i64 0] 28 (0, 0))) := ⟨by rw [← hq_]; exact by50⟩; have n2_ : Aside0 (Below w.heap.size w w6) := ⟨by rw [← hq_]; exact by73⟩; clear BK162 BK163 HB hq_; have BK162 := n0_; have BK163 := n1_; have HB := n2_; clear n0_ n1_ n2_)); have hcq0 := cz BK162.out 0 (.int .i64 a0_0); have hcq1 := cz BK162.out 11 (.int .i64 a0_11); have hcq2 := cz BK162.out 12 (.int .i64 a0_12); have hcq3 := cz BK162.out 13 (.int .i64 a0_13); have hcq4 := cz BK162.out 14 (.int .i64 a0_14); have hcq5 := cz BK162.out 15 (.int .i64 a0_15); have hcq6 := cz BK162.out 16 (.int .i64 a0_16); have hcq7 := cz BK162.out 17 (.int .i64 a0_17); obtain ⟨hcz9_0, hcz9_1, hcz9_2, hcz9_3, hcz9_4, hcz9_5, hcz9_6⟩ := cs7 BK163.out; have hfz9_0 := blk_frozen BK163.out 0; have hfz9_1 := blk_frozen BK163.out 1; have hfz9_2 := blk_frozen BK163.out 2; have hfz9_3 := blk_frozen BK163.out 3; have hfz9_4 := blk_frozen BK163.out 4; have hfz9_5 := blk_frozen BK163.out 5; have hfz9_6 := blk_frozen BK163.out 6))
   refine bodyPost_ret (results_ct rfl _ _ gb163 28 #[.int .i64 0, .int .i64 0, .int .i64 0, .int .i64 0, .int .i64 0, .int .i64 0, .int .i64 0] (0, 0) _ rfl (by (with_reducible repeat (first | refine blk_drewN ?_ _ | refine blk_drew ?_ | refine blk_alloc ?_ _)); refine blk_put (cs := #[.int .i64 0, .int .i64 0, .int .i64 0, .int .i64 0, .int .i64 0, .int .i64 0, .int .i64 0]) ?_ 6 _ rfl; (with_reducible repeat (first | refine blk_drewN ?_ _ | refine blk_drew ?_ | refine blk_alloc ?_ _)); refine blk_put (cs := #[.int .i64 0, .int .i64 0, .int .i64 0, .int .i64 0, .int .i64 0, .int .i64 0, .int .i64 0]) ?_ 5 _ rfl; (with_reducible repeat (first | refine blk_drewN ?_ _ | refine blk_drew ?_ | refine blk_alloc ?_ _)); refine blk_put (cs := #[.int .i64 0, .int .i64 0, .int .i64 0, .int .i64 0, .int .i64 0, .int .i64 0, .int .i64 0]) ?_ 4 _ rfl; (with_reducible repeat (first | refine blk_drewN ?_ _ | refine blk_drew ?_ | refine blk_alloc ?_ _)); refine blk_put (cs := #[.int .i64 0, .int .i64 0, .int .i64 0, .int .i64 0, .int .i64 0, .int .i64 0, .int .i64 0]) ?_ 3 _ rfl; (with_reducible repeat (first | refine blk_drewN ?_ _ | refine blk_drew ?_ | refine blk_alloc ?_ _)); refine blk_put (cs := #[.int .i64 0, .int .i64 0, .int .i64 0, .int .i64 0, .int .i64 0, .int .i64 0, .int .i64 0]) ?_ 2 _ rfl; (with_reducible repeat (first | refine blk_drewN ?_ _ | refine blk_drew ?_ | refine blk_alloc ?_ _)); refine blk_put (cs := #[.int .i64 0, .int .i64 0, .int .i64 0, .int .i64 0, .int .i64 0, .int .i64 0, .int .i64 0]) ?_ 1 _ rfl; (with_reducible repeat (first | refine blk_drewN ?_ _ | refine blk_drew ?_ | refine blk_alloc ?_ _)); refine blk_put (cs := #[.int .i64 0, .int .i64 0, .int .i64 0, .int .i64 0, .int .i64 0, .int .i64 0, .int .i64 0]) ?_ 0 _ rfl; (with_reducible repeat (first | refine blk_drewN ?_ _ | refine blk_drew ?_ | refine blk_alloc ?_ _)); exact BK163.out) Try.underlying28 rfl (by kernel_rfl)) rfl ?_
   exact ⟨by first | rfl | (simp [errW_none, errW_some] <;> rfl) | (simp [*, errW_none, errW_some] <;> rfl), by repeat (first | (with_reducible first | exact HB.out | apply below_alloc | apply pw_below_drewN | apply below_drew1 | refine below_set ?_ GE162.out | refine below_set ?_ GE163.out) | exact HB.out)⟩
  ·rw [if_neg c4] at H
   have c4b0 : (a0_11 == 3) = false := beq_eq_false_iff_ne.mpr c4
   have c4b1 : (a0_11 != 3) = true := bne_iff_ne.mpr c4
   simp only [Option.some.injEq, Prod.mk.injEq] at H
   obtain ⟨rfl, rfl, rfl, rfl, rfl, rfl, rfl, rfl⟩ := H
   go_enter Try.func60, Try.ntmps60
   go_wp2_with (first | ((with_reducible refine gate_dst (N := 1) rfl ?_); refine bx30 (w := w) (N := 1) rfl rfl rfl rfl by0 ?_; intro gb162 w10 n0_ BK162 GW162 GE162; clear HB; have HB := n0_; clear n0_) | ((with_reducible refine gate_dst (N := 2) rfl ?_); refine box_event ?hg (N := 2) ?hd (cs := #[.int .i64 0, .int .i64 0, .int .i64 0, .int .i64 0, .int .i64 0, .int .i64 0, .int .i64 0]) (t := 28) ?hr ?_; (case hd => rfl); (case hg => rfl); (case hr => first | (go_simp; done) | (go_simp; rfl)); intro gb163 hg w11 hbox hb; have n0_ := Aside0.mk (blk_below by62 hb); have n1_ := Aside0.mk (below_step by78 hb); have n2_ := Aside0.mk (hbox); have n3_ := Aside0.mk ((by42 : w.heap.size ≤ gb163)); have n4_ := Aside0.mk ((by42 : w.heap.size ≤ gb163)); have n5_ := Aside0.mk ((by81 : gb162 ≠ gb163)); have n6_ := Aside0.mk ((by82 : gb163 ≠ gb162)); clear BK162; clear HB; have BK162 := n0_; have HB := n1_; have BK163 := n2_; have GW163 := n3_; have GE163 := n4_; have NB162_163 := n5_; have NB163_162 := n6_; clear n0_ n1_ n2_ n3_ n4_ n5_ n6_; clear hb hbox hg; have hnb12 := NB162_163.out; have hnc12 := NB163_162.out; have hcz13_0 := cz BK162.out 0 (.int .i64 a0_0); have hcz13_11 := cz BK162.out 11 (.int .i64 a0_11); have hcz13_12 := cz BK162.out 12 (.int .i64 a0_12); have hcz13_13 := cz BK162.out 13 (.int .i64 a0_13); have hcz13_14 := cz BK162.out 14 (.int .i64 a0_14); have hcz13_15 := cz BK162.out 15 (.int .i64 a0_15); have hcz13_16 := cz BK162.out 16 (.int .i64 a0_16); have hcz13_17 := cz BK162.out 17 (.int .i64 a0_17)) | ((with_reducible refine gate_callee (f := 102) rfl ?_); refine goesL_ (some 6) rfl rfl Try.func102 by4 rfl #[.int .i64 a0_0] rfl by1 ?_; (with_reducible refine (spec_l08Flow.calls k a0_0 true _ A2.out).mono ?_); rintro e w' ⟨rfl, ⟨nd, rfl⟩⟩; refine ⟨_, rfl, ?_⟩; (try (rw [drewN_self w11]; generalize hq_ : World.drewN w11 _ = w11; have n0_ : Aside0 (w11.heap[gb162]? = some (.cells #[.int .i64 a0_0, .int .i64 a0_1, .int .i64 a0_2, .int .i64 a0_3, .int .i64 a0_4, .int .i64 a0_5, .int .i64 a0_6, .int .i64 a0_7, .int .i64 a0_8, .int .i64 a0_9, .int .i64 a0_10, .int .i64 a0_11, .int .i64 a0_12, .int .i64 a0_13, .int .i64 a0_14, .int .i64 a0_15, .int .i64 a0_16, .int .i64 a0_17, .int .i64 a0_18] 30 (0, 0))) := ⟨by rw [← hq_]; exact by62⟩; have n1_ : Aside0 (w11.heap[gb163]? = some (.cells #[.int .i64 0, .int .i64 0, .int .i64 0, .int .i64 0, .int .i64 0, .int .i64 0, .int .i64 0] 28 (0, 0))) := ⟨by rw [← hq_]; exact by50⟩; have n2_ : Aside0 (Below w.heap.size w w11) := ⟨by rw [← hq_]; exact by73⟩; clear BK162 BK163 HB hq_; have BK162 := n0_; have BK163 := n1_; have HB := n2_; clear n0_ n1_ n2_)); have hcq8 := cz BK162.out 0 (.int .i64 a0_0); have hcq9 := cz BK162.out 11 (.int .i64 a0_11); have hcq10 := cz BK162.out 12 (.int .i64 a0_12); have hcq11 := cz BK162.out 13 (.int .i64 a0_13); have hcq12 := cz BK162.out 14 (.int .i64 a0_14); have hcq13 := cz BK162.out 15 (.int .i64 a0_15); have hcq14 := cz BK162.out 16 (.int .i64 a0_16); have hcq15 := cz BK162.out 17 (.int .i64 a0_17); obtain ⟨hcz14_0, hcz14_1, hcz14_2, hcz14_3, hcz14_4, hcz14_5, hcz14_6⟩ := cs7 BK163.out; have hfz14_0 := blk_frozen BK163.out 0; have hfz14_1 := blk_frozen BK163.out 1; have hfz14_2 := blk_frozen BK163.out 2; have hfz14_3 := blk_frozen BK163.out 3; have hfz14_4 := blk_frozen BK163.out 4; have hfz14_5 := blk_frozen BK163.out 5; have hfz14_6 := blk_frozen BK163.out 6))
   refine bodyPost_ret (results_ct rfl _ _ gb163 28 #[.int .i64 a0_11, .int .i64 a0_12, .int .i64 a0_13, .int .i64 a0_14, .int .i64 a0_15, .int .i64 a0_16, .int .i64 a0_17] (0, 0) _ rfl (by (with_reducible repeat (first | refine blk_drewN ?_ _ | refine blk_drew ?_ | refine blk_alloc ?_ _)); refine blk_put (cs := #[.int .i64 a0_11, .int .i64 a0_12, .int .i64 a0_13, .int .i64 a0_14, .int .i64 a0_15, .int .i64 a0_16, .int .i64 0]) ?_ 6 _ rfl; (with_reducible repeat (first | refine blk_drewN ?_ _ | refine blk_drew ?_ | refine blk_alloc ?_ _)); refine blk_put (cs := #[.int .i64 a0_11, .int .i64 a0_12, .int .i64 a0_13, .int .i64 a0_14, .int .i64 a0_15, .int .i64 0, .int .i64 0]) ?_ 5 _ rfl; (with_reducible repeat (first | refine blk_drewN ?_ _ | refine blk_drew ?_ | refine blk_alloc ?_ _)); refine blk_put (cs := #[.int .i64 a0_11, .int .i64 a0_12, .int .i64 a0_13, .int .i64 a0_14, .int .i64 0, .int .i64 0, .int .i64 0]) ?_ 4 _ rfl; (with_reducible repeat (first | refine blk_drewN ?_ _ | refine blk_drew ?_ | refine blk_alloc ?_ _)); refine blk_put (cs := #[.int .i64 a0_11, .int .i64 a0_12, .int .i64 a0_13, .int .i64 0, .int .i64 0, .int .i64 0, .int .i64 0]) ?_ 3 _ rfl; (with_reducible repeat (first | refine blk_drewN ?_ _ | refine blk_drew ?_ | refine blk_alloc ?_ _)); refine blk_put (cs := #[.int .i64 a0_11, .int .i64 a0_12, .int .i64 0, .int .i64 0, .int .i64 0, .int .i64 0, .int .i64 0]) ?_ 2 _ rfl; (with_reducible repeat (first | refine blk_drewN ?_ _ | refine blk_drew ?_ | refine blk_alloc ?_ _)); refine blk_put (cs := #[.int .i64 a0_11, .int .i64 0, .int .i64 0, .int .i64 0, .int .i64 0, .int .i64 0, .int .i64 0]) ?_ 1 _ rfl; (with_reducible repeat (first | refine blk_drewN ?_ _ | refine blk_drew ?_ | refine blk_alloc ?_ _)); refine blk_put (cs := #[.int .i64 0, .int .i64 0, .int .i64 0, .int .i64 0, .int .i64 0, .int .i64 0, .int .i64 0]) ?_ 0 _ rfl; (with_reducible repeat (first | refine blk_drewN ?_ _ | refine blk_drew ?_ | refine blk_alloc ?_ _)); exact BK163.out) Try.underlying28 rfl (by kernel_rfl)) rfl ?_
   exact ⟨by first | rfl | (simp [errW_none, errW_some] <;> rfl) | (simp [*, errW_none, errW_some] <;> rfl), by repeat (first | (with_reducible first | exact HB.out | apply below_alloc | apply pw_below_drewN | apply below_drew1 | refine below_set ?_ GE162.out | refine below_set ?_ GE163.out) | exact HB.out)⟩
 ·replace c3 := Bool.eq_false_iff.mpr c3
  subst c3
  have H1 : (some (0, 0, 0, 0, 0, 0, 0, false)) = some (r1, r2, r3, r4, r5, r6, r7, r8) := by rw [if_neg (show ¬ (false = true) by decide)] at H; exact H
  clear H
  have H := H1
  clear H1
  simp only [Option.some.injEq, Prod.mk.injEq] at H
  obtain ⟨rfl, rfl, rfl, rfl, rfl, rfl, rfl, rfl⟩ := H
  go_enter Try.func60, Try.ntmps60
  go_wp2_with (first | ((with_reducible refine gate_dst (N := 1) rfl ?_); refine bx30 (w := w) (N := 1) rfl rfl rfl rfl by0 ?_; intro gb162 w15 n0_ BK162 GW162 GE162; clear HB; have HB := n0_; clear n0_) | ((with_reducible refine gate_dst (N := 2) rfl ?_); refine box_event ?hg (N := 2) ?hd (cs := #[.int .i64 0, .int .i64 0, .int .i64 0, .int .i64 0, .int .i64 0, .int .i64 0, .int .i64 0]) (t := 28) ?hr ?_; (case hd => rfl); (case hg => rfl); (case hr => first | (go_simp; done) | (go_simp; rfl)); intro gb163 hg w16 hbox hb; have n0_ := Aside0.mk (blk_below by62 hb); have n1_ := Aside0.mk (below_step by78 hb); have n2_ := Aside0.mk (hbox); have n3_ := Aside0.mk ((by42 : w.heap.size ≤ gb163)); have n4_ := Aside0.mk ((by42 : w.heap.size ≤ gb163)); have n5_ := Aside0.mk ((by81 : gb162 ≠ gb163)); have n6_ := Aside0.mk ((by82 : gb163 ≠ gb162)); clear BK162; clear HB; have BK162 := n0_; have HB := n1_; have BK163 := n2_; have GW163 := n3_; have GE163 := n4_; have NB162_163 := n5_; have NB163_162 := n6_; clear n0_ n1_ n2_ n3_ n4_ n5_ n6_; clear hb hbox hg; have hnb17 := NB162_163.out; have hnc17 := NB163_162.out; have hcz18_0 := cz BK162.out 0 (.int .i64 a0_0); have hcz18_11 := cz BK162.out 11 (.int .i64 a0_11); have hcz18_12 := cz BK162.out 12 (.int .i64 a0_12); have hcz18_13 := cz BK162.out 13 (.int .i64 a0_13); have hcz18_14 := cz BK162.out 14 (.int .i64 a0_14); have hcz18_15 := cz BK162.out 15 (.int .i64 a0_15); have hcz18_16 := cz BK162.out 16 (.int .i64 a0_16); have hcz18_17 := cz BK162.out 17 (.int .i64 a0_17)) | ((with_reducible refine gate_callee (f := 102) rfl ?_); refine goesL_ (some 6) rfl rfl Try.func102 by4 rfl #[.int .i64 a0_0] rfl by1 ?_; (with_reducible refine (spec_l08Flow.calls k a0_0 false _ A2.out).mono ?_); rintro e w' ⟨rfl, ⟨nd, rfl⟩⟩; refine ⟨_, rfl, ?_⟩; (try (rw [drewN_self w16]; generalize hq_ : World.drewN w16 _ = w16; have n0_ : Aside0 (w16.heap[gb162]? = some (.cells #[.int .i64 a0_0, .int .i64 a0_1, .int .i64 a0_2, .int .i64 a0_3, .int .i64 a0_4, .int .i64 a0_5, .int .i64 a0_6, .int .i64 a0_7, .int .i64 a0_8, .int .i64 a0_9, .int .i64 a0_10, .int .i64 a0_11, .int .i64 a0_12, .int .i64 a0_13, .int .i64 a0_14, .int .i64 a0_15, .int .i64 a0_16, .int .i64 a0_17, .int .i64 a0_18] 30 (0, 0))) := ⟨by rw [← hq_]; exact by62⟩; have n1_ : Aside0 (w16.heap[gb163]? = some (.cells #[.int .i64 0, .int .i64 0, .int .i64 0, .int .i64 0, .int .i64 0, .int .i64 0, .int .i64 0] 28 (0, 0))) := ⟨by rw [← hq_]; exact by50⟩; have n2_ : Aside0 (Below w.heap.size w w16) := ⟨by rw [← hq_]; exact by73⟩; clear BK162 BK163 HB hq_; have BK162 := n0_; have BK163 := n1_; have HB := n2_; clear n0_ n1_ n2_)); have hcq16 := cz BK162.out 0 (.int .i64 a0_0); have hcq17 := cz BK162.out 11 (.int .i64 a0_11); have hcq18 := cz BK162.out 12 (.int .i64 a0_12); have hcq19 := cz BK162.out 13 (.int .i64 a0_13); have hcq20 := cz BK162.out 14 (.int .i64 a0_14); have hcq21 := cz BK162.out 15 (.int .i64 a0_15); have hcq22 := cz BK162.out 16 (.int .i64 a0_16); have hcq23 := cz BK162.out 17 (.int .i64 a0_17); obtain ⟨hcz19_0, hcz19_1, hcz19_2, hcz19_3, hcz19_4, hcz19_5, hcz19_6⟩ := cs7 BK163.out; have hfz19_0 := blk_frozen BK163.out 0; have hfz19_1 := blk_frozen BK163.out 1; have hfz19_2 := blk_frozen BK163.out 2; have hfz19_3 := blk_frozen BK163.out 3; have hfz19_4 := blk_frozen BK163.out 4; have hfz19_5 := blk_frozen BK163.out 5; have hfz19_6 := blk_frozen BK163.out 6))
  refine bodyPost_ret (results_ct rfl _ _ gb163 28 #[.int .i64 0, .int .i64 0, .int .i64 0, .int .i64 0, .int .i64 0, .int .i64 0, .int .i64 0] (0, 0) _ rfl (by (with_reducible repeat (first | refine blk_drewN ?_ _ | refine blk_drew ?_ | refine blk_alloc ?_ _)); refine blk_put (cs := #[.int .i64 0, .int .i64 0, .int .i64 0, .int .i64 0, .int .i64 0, .int .i64 0, .int .i64 0]) ?_ 6 _ rfl; (with_reducible repeat (first | refine blk_drewN ?_ _ | refine blk_drew ?_ | refine blk_alloc ?_ _)); refine blk_put (cs := #[.int .i64 0, .int .i64 0, .int .i64 0, .int .i64 0, .int .i64 0, .int .i64 0, .int .i64 0]) ?_ 5 _ rfl; (with_reducible repeat (first | refine blk_drewN ?_ _ | refine blk_drew ?_ | refine blk_alloc ?_ _)); refine blk_put (cs := #[.int .i64 0, .int .i64 0, .int .i64 0, .int .i64 0, .int .i64 0, .int .i64 0, .int .i64 0]) ?_ 4 _ rfl; (with_reducible repeat (first | refine blk_drewN ?_ _ | refine blk_drew ?_ | refine blk_alloc ?_ _)); refine blk_put (cs := #[.int .i64 0, .int .i64 0, .int .i64 0, .int .i64 0, .int .i64 0, .int .i64 0, .int .i64 0]) ?_ 3 _ rfl; (with_reducible repeat (first | refine blk_drewN ?_ _ | refine blk_drew ?_ | refine blk_alloc ?_ _)); refine blk_put (cs := #[.int .i64 0, .int .i64 0, .int .i64 0, .int .i64 0, .int .i64 0, .int .i64 0, .int .i64 0]) ?_ 2 _ rfl; (with_reducible repeat (first | refine blk_drewN ?_ _ | refine blk_drew ?_ | refine blk_alloc ?_ _)); refine blk_put (cs := #[.int .i64 0, .int .i64 0, .int .i64 0, .int .i64 0, .int .i64 0, .int .i64 0, .int .i64 0]) ?_ 1 _ rfl; (with_reducible repeat (first | refine blk_drewN ?_ _ | refine blk_drew ?_ | refine blk_alloc ?_ _)); refine blk_put (cs := #[.int .i64 0, .int .i64 0, .int .i64 0, .int .i64 0, .int .i64 0, .int .i64 0, .int .i64 0]) ?_ 0 _ rfl; (with_reducible repeat (first | refine blk_drewN ?_ _ | refine blk_drew ?_ | refine blk_alloc ?_ _)); exact BK163.out) Try.underlying28 rfl (by kernel_rfl)) rfl ?_
  exact ⟨by first | rfl | (simp [errW_none, errW_some] <;> rfl) | (simp [*, errW_none, errW_some] <;> rfl), by repeat (first | (with_reducible first | exact HB.out | apply below_alloc | apply pw_below_drewN | apply below_drew1 | refine below_set ?_ GE162.out | refine below_set ?_ GE163.out) | exact HB.out)⟩

/-! ### spec_ThroughOf: function 22 -/
def spec_ThroughOf.f (k : Nat) (a0_0 : Int) (a0_1 : Int) (a0_2 : Int) (a0_3 : Int) (a0_4 : Int) (a0_5 : Int) (a0_6 : Int) (a0_7 : Int) (a0_8 : Int) (a0_9 : Int) (a0_10 : Int) (a0_11 : Int) (a0_12 : Int) (a0_13 : Int) (a0_14 : Int) (a0_15 : Int) (a0_16 : Int) (a0_17 : Int) (a0_18 : Int) : Option (Int × Int × Int × Int × Int × Int × Int × Bool × Int) := (spec_l05OK.f k a0_0 a0_1 a0_2 a0_3 a0_4 a0_5 a0_6 a0_7 a0_8 a0_9 a0_10 a0_11 a0_12 a0_13 a0_14 a0_15 a0_16 a0_17 a0_18).bind fun t167 => (if t167 = true then ((spec_l08Through.f k a0_0 a0_1 a0_2 a0_3 a0_4 a0_5 a0_6 a0_7 a0_8 a0_9 a0_10 a0_11 a0_12 a0_13 a0_14 a0_15 a0_16 a0_17 a0_18).bind fun bt168 => (some (bt168.1, bt168.2.1, bt168.2.2.1, bt168.2.2.2.1, bt168.2.2.2.2.1, bt168.2.2.2.2.2.1, bt168.2.2.2.2.2.2.1, bt168.2.2.2.2.2.2.2, 0))) else (some (0, 0, 0, 0, 0, 0, 0, false, 1)))
theorem spec_ThroughOf.mono : ∀ a0 a1 a2 a3 a4 a5 a6 a7 a8 a9 a10 a11 a12 a13 a14 a15 a16 a17 a18 k, LeO (spec_ThroughOf.f k a0 a1 a2 a3 a4 a5 a6 a7 a8 a9 a10 a11 a12 a13 a14 a15 a16 a17 a18) (spec_ThroughOf.f (k + 1) a0 a1 a2 a3 a4 a5 a6 a7 a8 a9 a10 a11 a12 a13 a14 a15 a16 a17 a18) := by
 intro a0 a1 a2 a3 a4 a5 a6 a7 a8 a9 a10 a11 a12 a13 a14 a15 a16 a17 a18 k
 unfold spec_ThroughOf.f
 repeat' first
   | (with_reducible exact spec_l05OK.mono _ _ _ _ _ _ _ _ _ _ _ _ _ _ _ _ _ _ _ _)
   | (with_reducible exact spec_l08Through.mono _ _ _ _ _ _ _ _ _ _ _ _ _ _ _ _ _ _ _ _)
   | (with_reducible exact LeO.refl _)
   | (with_reducible exact LeO.none _)
   | (with_reducible refine LeO.ite ?_ ?_)
   | (with_reducible refine LeO.bind ?_ (fun _ => ?_))
   | refine LeO.ite ?_ ?_
   | refine LeO.bind ?_ (fun _ => ?_)
set_option maxHeartbeats 8000000 in
set_option maxRecDepth 100000 in
theorem spec_ThroughOf.calls (k : Nat) (a0_0 : Int) (a0_1 : Int) (a0_2 : Int) (a0_3 : Int) (a0_4 : Int) (a0_5 : Int) (a0_6 : Int) (a0_7 : Int) (a0_8 : Int) (a0_9 : Int) (a0_10 : Int) (a0_11 : Int) (a0_12 : Int) (a0_13 : Int) (a0_14 : Int) (a0_15 : Int) (a0_16 : Int) (a0_17 : Int) (a0_18 : Int) (r1 : Int) (r2 : Int) (r3 : Int) (r4 : Int) (r5 : Int) (r6 : Int) (r7 : Int) (r8 : Bool) (r9 : Int) (w : World) (h : spec_ThroughOf.f k a0_0 a0_1 a0_2 a0_3 a0_4 a0_5 a0_6 a0_7 a0_8 a0_9 a0_10 a0_11 a0_12 a0_13 a0_14 a0_15 a0_16 a0_17 a0_18 = some (r1, r2, r3, r4, r5, r6, r7, r8, r9)) :
  Calls Try.prog 22 #[.agg #[.int .i64 a0_0, .int .i64 a0_1, .int .i64 a0_2, .int .i64 a0_3, .int .i64 a0_4, .int .i64 a0_5, .int .i64 a0_6, .int .i64 a0_7, .int .i64 a0_8, .int .i64 a0_9, .int .i64 a0_10, .int .i64 a0_11, .int .i64 a0_12, .int .i64 a0_13, .int .i64 a0_14, .int .i64 a0_15, .int .i64 a0_16, .int .i64 a0_17, .int .i64 a0_18]] w fun e w' => e = .returned (.tuple #[.agg #[.int .i64 r1, .int .i64 r2, .int .i64 r3, .int .i64 r4, .int .i64 r5, .int .i64 r6, .int .i64 r7], .bool r8, .int .i64 r9]) ∧ Below w.heap.size w w' := by
 have hu30 := Try.underlying30
 have hu28 := Try.underlying28
 have HB := Aside0.mk (Below.refl w.heap.size w)
 have H : ((spec_l05OK.f k a0_0 a0_1 a0_2 a0_3 a0_4 a0_5 a0_6 a0_7 a0_8 a0_9 a0_10 a0_11 a0_12 a0_13 a0_14 a0_15 a0_16 a0_17 a0_18).bind fun t167 => (if t167 = true then ((spec_l08Through.f k a0_0 a0_1 a0_2 a0_3 a0_4 a0_5 a0_6 a0_7 a0_8 a0_9 a0_10 a0_11 a0_12 a0_13 a0_14 a0_15 a0_16 a0_17 a0_18).bind fun bt168 => (some (bt168.1, bt168.2.1, bt168.2.2.1, bt168.2.2.2.1, bt168.2.2.2.2.1, bt168.2.2.2.2.2.1, bt168.2.2.2.2.2.2.1, bt168.2.2.2.2.2.2.2, 0))) else (some (0, 0, 0, 0, 0, 0, 0, false, 1)))) = some (r1, r2, r3, r4, r5, r6, r7, r8, r9) := h
 clear h
 replace H := Option.bind_eq_some_iff.mp H
 obtain ⟨t167, A20, H⟩ := H
 replace H : (if t167 = true then ((spec_l08Through.f k a0_0 a0_1 a0_2 a0_3 a0_4 a0_5 a0_6 a0_7 a0_8 a0_9 a0_10 a0_11 a0_12 a0_13 a0_14 a0_15 a0_16 a0_17 a0_18).bind fun bt168 => (some (bt168.1, bt168.2.1, bt168.2.2.1, bt168.2.2.2.1, bt168.2.2.2.2.1, bt168.2.2.2.2.2.1, bt168.2.2.2.2.2.2.1, bt168.2.2.2.2.2.2.2, 0))) else (some (0, 0, 0, 0, 0, 0, 0, false, 1))) = some (r1, r2, r3, r4, r5, r6, r7, r8, r9) := H
 have A2 := Aside0.mk A20
 clear A20
 by_cases c3 : t167 = true
 ·subst c3
  have H1 : ((spec_l08Through.f k a0_0 a0_1 a0_2 a0_3 a0_4 a0_5 a0_6 a0_7 a0_8 a0_9 a0_10 a0_11 a0_12 a0_13 a0_14 a0_15 a0_16 a0_17 a0_18).bind fun bt168 => (some (bt168.1, bt168.2.1, bt168.2.2.1, bt168.2.2.2.1, bt168.2.2.2.2.1, bt168.2.2.2.2.2.1, bt168.2.2.2.2.2.2.1, bt168.2.2.2.2.2.2.2, 0))) = some (r1, r2, r3, r4, r5, r6, r7, r8, r9) := by rw [if_pos rfl] at H; exact H
  clear H
  have H := H1
  clear H1
  replace H := Option.bind_eq_some_iff.mp H
  obtain ⟨⟨t168, t169, t170, t171, t172, t173, t174, t175⟩, A40, H⟩ := H
  replace H : (some (t168, t169, t170, t171, t172, t173, t174, t175, 0)) = some (r1, r2, r3, r4, r5, r6, r7, r8, r9) := H
  have A4 := Aside0.mk A40
  clear A40
  simp only [Option.some.injEq, Prod.mk.injEq] at H
  obtain ⟨rfl, rfl, rfl, rfl, rfl, rfl, rfl, rfl, rfl⟩ := H
  go_enter Try.func22, Try.ntmps22
  go_wp2_with (first | ((with_reducible refine gate_dst (N := 7) rfl ?_); (try refine gate_guard (by rfl) ?_); refine ldw 30 (.tmp 1) rfl rfl rfl by24 Try.underlying30 rfl by4 ?_) | ((with_reducible refine gate_dst (N := 12) rfl ?_); (try refine gate_guard (by rfl) ?_); refine ldw 30 (.tmp 1) rfl rfl rfl by24 Try.underlying30 rfl by4 ?_) | ((with_reducible refine gate_dst (N := 1) rfl ?_); refine bx30 (w := w) (N := 1) rfl rfl rfl rfl by0 ?_; intro gb165 w5 n0_ BK165 GW165 GE165; clear HB; have HB := n0_; clear n0_) | ((with_reducible refine gate_dst (N := 2) rfl ?_); refine box_event ?hg (N := 2) ?hd (cs := #[.int .i64 0, .int .i64 0, .int .i64 0, .int .i64 0, .int .i64 0, .int .i64 0, .int .i64 0]) (t := 28) ?hr ?_; (case hd => rfl); (case hg => rfl); (case hr => first | (go_simp; done) | (go_simp; rfl)); intro gb166 hg w6 hbox hb; have n0_ := Aside0.mk (blk_below by24 hb); have n1_ := Aside0.mk (below_step by58 hb); have n2_ := Aside0.mk (hbox); have n3_ := Aside0.mk ((by22 : w.heap.size ≤ gb166)); have n4_ := Aside0.mk ((by22 : w.heap.size ≤ gb166)); have n5_ := Aside0.mk ((by39 : gb165 ≠ gb166)); have n6_ := Aside0.mk ((by40 : gb166 ≠ gb165)); clear BK165; clear HB; have BK165 := n0_; have HB := n1_; have BK166 := n2_; have GW166 := n3_; have GE166 := n4_; have NB165_166 := n5_; have NB166_165 := n6_; clear n0_ n1_ n2_ n3_ n4_ n5_ n6_; clear hb hbox hg; have hnb7 := NB165_166.out; have hnc7 := NB166_165.out; obtain ⟨hcz8_0, hcz8_1, hcz8_2, hcz8_3, hcz8_4, hcz8_5, hcz8_6, hcz8_7, hcz8_8, hcz8_9, hcz8_10, hcz8_11, hcz8_12, hcz8_13, hcz8_14, hcz8_15, hcz8_16, hcz8_17, hcz8_18⟩ := cs19 BK165.out) | ((with_reducible refine gate_callee (f := 50) rfl ?_); refine goesL_ (some 8) rfl rfl Try.func50 by4 rfl _ rfl by1 (Calls.mono (spec_l05OK.calls _ _ _ _ _ _ _ _ _ _ _ _ _ _ _ _ _ _ _ _ _ _ A2.out) ?_); rintro e w9 ⟨rfl, hb⟩; refine ⟨_, rfl, ?_⟩; have n0_ := Aside0.mk (blk_below by24 hb); have n1_ := Aside0.mk (blk_below by38 hb); have n2_ := Aside0.mk (below_step by16 hb); clear BK165; clear BK166; clear HB; have BK165 := n0_; have BK166 := n1_; have HB := n2_; clear n0_ n1_ n2_; (try clear hb); (try clear hb2); (try clear hk); (try clear hi); obtain ⟨hcz10_0, hcz10_1, hcz10_2, hcz10_3, hcz10_4, hcz10_5, hcz10_6, hcz10_7, hcz10_8, hcz10_9, hcz10_10, hcz10_11, hcz10_12, hcz10_13, hcz10_14, hcz10_15, hcz10_16, hcz10_17, hcz10_18⟩ := cs19 BK165.out) | ((with_reducible refine gate_callee (f := 60) rfl ?_); refine goesL_ (some 13) rfl rfl Try.func60 by4 rfl _ rfl by1 (Calls.mono (spec_l08Through.calls _ _ _ _ _ _ _ _ _ _ _ _ _ _ _ _ _ _ _ _ _ _ _ _ _ _ _ _ _ A4.out) ?_); rintro e w11 ⟨rfl, hb⟩; refine ⟨_, rfl, ?_⟩; have n0_ := Aside0.mk (blk_below by24 hb); have n1_ := Aside0.mk (blk_below by38 hb); have n2_ := Aside0.mk (below_step by16 hb); clear BK165; clear BK166; clear HB; have BK165 := n0_; have BK166 := n1_; have HB := n2_; clear n0_ n1_ n2_; (try clear hb); (try clear hb2); (try clear hk); (try clear hi)) | ((with_reducible refine gate_dst (N := 5) rfl ?_); refine box_event ?hg (N := 5) ?hd (cs := #[.int .i64 0, .int .i64 0, .int .i64 0, .int .i64 0, .int .i64 0, .int .i64 0, .int .i64 0]) (t := 28) ?hr ?_; (case hd => rfl); (case hg => rfl); (case hr => first | (go_simp; done) | (go_simp; rfl)); intro gb176 hg w12 hbox hb; have n0_ := Aside0.mk (blk_below by24 hb); have n1_ := Aside0.mk (blk_below by38 hb); have n2_ := Aside0.mk (below_step by16 hb); have n3_ := Aside0.mk (hbox); have n4_ := Aside0.mk ((by35 : w.heap.size ≤ gb176)); have n5_ := Aside0.mk ((by35 : w.heap.size ≤ gb176)); have n6_ := Aside0.mk ((by39 : gb165 ≠ gb176)); have n7_ := Aside0.mk ((by40 : gb176 ≠ gb165)); have n8_ := Aside0.mk ((by83 : gb166 ≠ gb176)); have n9_ := Aside0.mk ((by84 : gb176 ≠ gb166)); clear BK165; clear BK166; clear HB; have BK165 := n0_; have BK166 := n1_; have HB := n2_; have BK176 := n3_; have GW176 := n4_; have GE176 := n5_; have NB165_176 := n6_; have NB176_165 := n7_; have NB166_176 := n8_; have NB176_166 := n9_; clear n0_ n1_ n2_ n3_ n4_ n5_ n6_ n7_ n8_ n9_; clear hb hbox hg; have hnb13 := NB176_165.out; have hnc13 := NB165_176.out; have hnb14 := NB176_166.out; have hnc14 := NB166_176.out; obtain ⟨hcz15_0, hcz15_1, hcz15_2, hcz15_3, hcz15_4, hcz15_5, hcz15_6⟩ := cs7 BK176.out; have hfz15_0 := blk_frozen BK176.out 0; have hfz15_1 := blk_frozen BK176.out 1; have hfz15_2 := blk_frozen BK176.out 2; have hfz15_3 := blk_frozen BK176.out 3; have hfz15_4 := blk_frozen BK176.out 4; have hfz15_5 := blk_frozen BK176.out 5; have hfz15_6 := blk_frozen BK176.out 6; obtain ⟨hcz16_0, hcz16_1, hcz16_2, hcz16_3, hcz16_4, hcz16_5, hcz16_6⟩ := cs7 BK166.out; have hfz16_0 := blk_frozen BK166.out 0; have hfz16_1 := blk_frozen BK166.out 1; have hfz16_2 := blk_frozen BK166.out 2; have hfz16_3 := blk_frozen BK166.out 3; have hfz16_4 := blk_frozen BK166.out 4; have hfz16_5 := blk_frozen BK166.out 5; have hfz16_6 := blk_frozen BK166.out 6))
  refine bodyPost_ret (results_ctt rfl _ _ gb166 28 #[.int .i64 t168, .int .i64 t169, .int .i64 t170, .int .i64 t171, .int .i64 t172, .int .i64 t173, .int .i64 t174] (0, 0) _ rfl (by (with_reducible repeat (first | refine blk_drewN ?_ _ | refine blk_drew ?_ | refine blk_alloc ?_ _)); refine blk_put (cs := #[.int .i64 t168, .int .i64 t169, .int .i64 t170, .int .i64 t171, .int .i64 t172, .int .i64 t173, .int .i64 0]) ?_ 6 _ rfl; (with_reducible repeat (first | refine blk_drewN ?_ _ | refine blk_drew ?_ | refine blk_alloc ?_ _)); refine blk_put (cs := #[.int .i64 t168, .int .i64 t169, .int .i64 t170, .int .i64 t171, .int .i64 t172, .int .i64 0, .int .i64 0]) ?_ 5 _ rfl; (with_reducible repeat (first | refine blk_drewN ?_ _ | refine blk_drew ?_ | refine blk_alloc ?_ _)); refine blk_put (cs := #[.int .i64 t168, .int .i64 t169, .int .i64 t170, .int .i64 t171, .int .i64 0, .int .i64 0, .int .i64 0]) ?_ 4 _ rfl; (with_reducible repeat (first | refine blk_drewN ?_ _ | refine blk_drew ?_ | refine blk_alloc ?_ _)); refine blk_put (cs := #[.int .i64 t168, .int .i64 t169, .int .i64 t170, .int .i64 0, .int .i64 0, .int .i64 0, .int .i64 0]) ?_ 3 _ rfl; (with_reducible repeat (first | refine blk_drewN ?_ _ | refine blk_drew ?_ | refine blk_alloc ?_ _)); refine blk_put (cs := #[.int .i64 t168, .int .i64 t169, .int .i64 0, .int .i64 0, .int .i64 0, .int .i64 0, .int .i64 0]) ?_ 2 _ rfl; (with_reducible repeat (first | refine blk_drewN ?_ _ | refine blk_drew ?_ | refine blk_alloc ?_ _)); refine blk_put (cs := #[.int .i64 t168, .int .i64 0, .int .i64 0, .int .i64 0, .int .i64 0, .int .i64 0, .int .i64 0]) ?_ 1 _ rfl; (with_reducible repeat (first | refine blk_drewN ?_ _ | refine blk_drew ?_ | refine blk_alloc ?_ _)); refine blk_put (cs := #[.int .i64 0, .int .i64 0, .int .i64 0, .int .i64 0, .int .i64 0, .int .i64 0, .int .i64 0]) ?_ 0 _ rfl; (with_reducible repeat (first | refine blk_drewN ?_ _ | refine blk_drew ?_ | refine blk_alloc ?_ _)); refine blk_far ?_ NB166_176.out _; (with_reducible repeat (first | refine blk_drewN ?_ _ | refine blk_drew ?_ | refine blk_alloc ?_ _)); refine blk_far ?_ NB166_176.out _; (with_reducible repeat (first | refine blk_drewN ?_ _ | refine blk_drew ?_ | refine blk_alloc ?_ _)); refine blk_far ?_ NB166_176.out _; (with_reducible repeat (first | refine blk_drewN ?_ _ | refine blk_drew ?_ | refine blk_alloc ?_ _)); refine blk_far ?_ NB166_176.out _; (with_reducible repeat (first | refine blk_drewN ?_ _ | refine blk_drew ?_ | refine blk_alloc ?_ _)); refine blk_far ?_ NB166_176.out _; (with_reducible repeat (first | refine blk_drewN ?_ _ | refine blk_drew ?_ | refine blk_alloc ?_ _)); refine blk_far ?_ NB166_176.out _; (with_reducible repeat (first | refine blk_drewN ?_ _ | refine blk_drew ?_ | refine blk_alloc ?_ _)); refine blk_far ?_ NB166_176.out _; (with_reducible repeat (first | refine blk_drewN ?_ _ | refine blk_drew ?_ | refine blk_alloc ?_ _)); exact BK166.out) Try.underlying28 rfl (by kernel_rfl)) rfl ?_
  exact ⟨by first | rfl | (simp [errW_none, errW_some] <;> rfl) | (simp [*, errW_none, errW_some] <;> rfl), by repeat (first | (with_reducible first | exact HB.out | apply below_alloc | apply pw_below_drewN | apply below_drew1 | refine below_set ?_ GE165.out | refine below_set ?_ GE166.out | refine below_set ?_ GE176.out) | exact HB.out)⟩
 ·replace c3 := Bool.eq_false_iff.mpr c3
  subst c3
  have H1 : (some (0, 0, 0, 0, 0, 0, 0, false, 1)) = some (r1, r2, r3, r4, r5, r6, r7, r8, r9) := by rw [if_neg (show ¬ (false = true) by decide)] at H; exact H
  clear H
  have H := H1
  clear H1
  simp only [Option.some.injEq, Prod.mk.injEq] at H
  obtain ⟨rfl, rfl, rfl, rfl, rfl, rfl, rfl, rfl, rfl⟩ := H
  go_enter Try.func22, Try.ntmps22
  go_wp2_with (first | ((with_reducible refine gate_dst (N := 7) rfl ?_); (try refine gate_guard (by rfl) ?_); refine ldw 30 (.tmp 1) rfl rfl rfl by24 Try.underlying30 rfl by4 ?_) | ((with_reducible refine gate_dst (N := 12) rfl ?_); (try refine gate_guard (by rfl) ?_); refine ldw 30 (.tmp 1) rfl rfl rfl by24 Try.underlying30 rfl by4 ?_) | ((with_reducible refine gate_dst (N := 1) rfl ?_); refine bx30 (w := w) (N := 1) rfl rfl rfl rfl by0 ?_; intro gb165 w17 n0_ BK165 GW165 GE165; clear HB; have HB := n0_; clear n0_) | ((with_reducible refine gate_dst (N := 2) rfl ?_); refine box_event ?hg (N := 2) ?hd (cs := #[.int .i64 0, .int .i64 0, .int .i64 0, .int .i64 0, .int .i64 0, .int .i64 0, .int .i64 0]) (t := 28) ?hr ?_; (case hd => rfl); (case hg => rfl); (case hr => first | (go_simp; done) | (go_simp; rfl)); intro gb166 hg w18 hbox hb; have n0_ := Aside0.mk (blk_below by24 hb); have n1_ := Aside0.mk (below_step by58 hb); have n2_ := Aside0.mk (hbox); have n3_ := Aside0.mk ((by22 : w.heap.size ≤ gb166)); have n4_ := Aside0.mk ((by22 : w.heap.size ≤ gb166)); have n5_ := Aside0.mk ((by39 : gb165 ≠ gb166)); have n6_ := Aside0.mk ((by40 : gb166 ≠ gb165)); clear BK165; clear HB; have BK165 := n0_; have HB := n1_; have BK166 := n2_; have GW166 := n3_; have GE166 := n4_; have NB165_166 := n5_; have NB166_165 := n6_; clear n0_ n1_ n2_ n3_ n4_ n5_ n6_; clear hb hbox hg; have hnb19 := NB165_166.out; have hnc19 := NB166_165.out; obtain ⟨hcz20_0, hcz20_1, hcz20_2, hcz20_3, hcz20_4, hcz20_5, hcz20_6, hcz20_7, hcz20_8, hcz20_9, hcz20_10, hcz20_11, hcz20_12, hcz20_13, hcz20_14, hcz20_15, hcz20_16, hcz20_17, hcz20_18⟩ := cs19 BK165.out) | ((with_reducible refine gate_callee (f := 50) rfl ?_); refine goesL_ (some 8) rfl rfl Try.func50 by4 rfl _ rfl by1 (Calls.mono (spec_l05OK.calls _ _ _ _ _ _ _ _ _ _ _ _ _ _ _ _ _ _ _ _ _ _ A2.out) ?_); rintro e w21 ⟨rfl, hb⟩; refine ⟨_, rfl, ?_⟩; have n0_ := Aside0.mk (blk_below by24 hb); have n1_ := Aside0.mk (blk_below by38 hb); have n2_ := Aside0.mk (below_step by16 hb); clear BK165; clear BK166; clear HB; have BK165 := n0_; have BK166 := n1_; have HB := n2_; clear n0_ n1_ n2_; (try clear hb); (try clear hb2); (try clear hk); (try clear hi); obtain ⟨hcz22_0, hcz22_1, hcz22_2, hcz22_3, hcz22_4, hcz22_5, hcz22_6⟩ := cs7 BK166.out; have hfz22_0 := blk_frozen BK166.out 0; have hfz22_1 := blk_frozen BK166.out 1; have hfz22_2 := blk_frozen BK166.out 2; have hfz22_3 := blk_frozen BK166.out 3; have hfz22_4 := blk_frozen BK166.out 4; have hfz22_5 := blk_frozen BK166.out 5; have hfz22_6 := blk_frozen BK166.out 6))
  refine bodyPost_ret (results_ctt rfl _ _ gb166 28 #[.int .i64 0, .int .i64 0, .int .i64 0, .int .i64 0, .int .i64 0, .int .i64 0, .int .i64 0] (0, 0) _ rfl (by (with_reducible repeat (first | refine blk_drewN ?_ _ | refine blk_drew ?_ | refine blk_alloc ?_ _)); refine blk_put (cs := #[.int .i64 0, .int .i64 0, .int .i64 0, .int .i64 0, .int .i64 0, .int .i64 0, .int .i64 0]) ?_ 6 _ rfl; (with_reducible repeat (first | refine blk_drewN ?_ _ | refine blk_drew ?_ | refine blk_alloc ?_ _)); refine blk_put (cs := #[.int .i64 0, .int .i64 0, .int .i64 0, .int .i64 0, .int .i64 0, .int .i64 0, .int .i64 0]) ?_ 5 _ rfl; (with_reducible repeat (first | refine blk_drewN ?_ _ | refine blk_drew ?_ | refine blk_alloc ?_ _)); refine blk_put (cs := #[.int .i64 0, .int .i64 0, .int .i64 0, .int .i64 0, .int .i64 0, .int .i64 0, .int .i64 0]) ?_ 4 _ rfl; (with_reducible repeat (first | refine blk_drewN ?_ _ | refine blk_drew ?_ | refine blk_alloc ?_ _)); refine blk_put (cs := #[.int .i64 0, .int .i64 0, .int .i64 0, .int .i64 0, .int .i64 0, .int .i64 0, .int .i64 0]) ?_ 3 _ rfl; (with_reducible repeat (first | refine blk_drewN ?_ _ | refine blk_drew ?_ | refine blk_alloc ?_ _)); refine blk_put (cs := #[.int .i64 0, .int .i64 0, .int .i64 0, .int .i64 0, .int .i64 0, .int .i64 0, .int .i64 0]) ?_ 2 _ rfl; (with_reducible repeat (first | refine blk_drewN ?_ _ | refine blk_drew ?_ | refine blk_alloc ?_ _)); refine blk_put (cs := #[.int .i64 0, .int .i64 0, .int .i64 0, .int .i64 0, .int .i64 0, .int .i64 0, .int .i64 0]) ?_ 1 _ rfl; (with_reducible repeat (first | refine blk_drewN ?_ _ | refine blk_drew ?_ | refine blk_alloc ?_ _)); refine blk_put (cs := #[.int .i64 0, .int .i64 0, .int .i64 0, .int .i64 0, .int .i64 0, .int .i64 0, .int .i64 0]) ?_ 0 _ rfl; (with_reducible repeat (first | refine blk_drewN ?_ _ | refine blk_drew ?_ | refine blk_alloc ?_ _)); exact BK166.out) Try.underlying28 rfl (by kernel_rfl)) rfl ?_
  exact ⟨by first | rfl | (simp [errW_none, errW_some] <;> rfl) | (simp [*, errW_none, errW_some] <;> rfl), by repeat (first | (with_reducible first | exact HB.out | apply below_alloc | apply pw_below_drewN | apply below_drew1 | refine below_set ?_ GE165.out | refine below_set ?_ GE166.out) | exact HB.out)⟩

/-! ### impl_throughOf: function 61 -/
def impl_throughOf.f (a0_0 : Int) (a0_1 : Int) (a0_2 : Int) (a0_3 : Int) (a0_4 : Int) (a0_5 : Int) (a0_6 : Int) (a0_7 : Int) (a0_8 : Int) (a0_9 : Int) (a0_10 : Int) (a0_11 : Int) (a0_12 : Int) (a0_13 : Int) (a0_14 : Int) (a0_15 : Int) (a0_16 : Int) (a0_17 : Int) (a0_18 : Int) : Option (Int × Int × Int × Int × Int × Int × Int × Bool) := if a0_0 = 31 then (if a0_11 = 3 then (some (0, 0, 0, 0, 0, 0, 0, false)) else (some (a0_11, a0_12, a0_13, a0_14, a0_15, a0_16, a0_17, true))) else (if a0_0 = 32 then (if a0_11 = 3 then (some (0, 0, 0, 0, 0, 0, 0, false)) else (some (a0_11, a0_12, a0_13, a0_14, a0_15, a0_16, a0_17, true))) else (some (0, 0, 0, 0, 0, 0, 0, false)))
theorem impl_throughOf.e0 {p : Prop} (h : p := by
 simp only [Option.some.injEq, Prod.mk.injEq] at H
 obtain ⟨rfl, rfl, rfl, rfl, rfl, rfl, rfl, rfl⟩ := H
 go_enter Try.func61, Try.ntmps61
 go_wp2_with (first | ((with_reducible refine gate_dst (N := 1) rfl ?_); refine bx30 (w := w) (N := 1) rfl rfl rfl rfl by0 ?_; intro gb_y0 w_y1 n_y2 BK_y3 GW_y4 GE_y5; clear HB; have HB := n_y2; clear n_y2) | ((with_reducible refine gate_dst (N := 2) rfl ?_); refine box_event ?hg (N := 2) ?hd (cs := #[.int .i64 0, .int .i64 0, .int .i64 0, .int .i64 0, .int .i64 0, .int .i64 0, .int .i64 0]) (t := 28) ?hr ?_; (case hd => rfl); (case hg => rfl); (case hr => first | (go_simp; done) | (go_simp; rfl)); intro gb_y6 hg w_y7 hbox hb; have n_y2 := Aside0.mk (blk_below by26 hb); have n_y8 := Aside0.mk (below_step by25 hb); have n_y9 := Aside0.mk (hbox); have n_y10 := Aside0.mk ((by15 : w.heap.size ≤ gb_y6)); have n_y11 := Aside0.mk ((by15 : w.heap.size ≤ gb_y6)); have n_y12 := Aside0.mk ((by31 : gb_y0 ≠ gb_y6)); have n_y13 := Aside0.mk ((by32 : gb_y6 ≠ gb_y0)); clear BK_y3; clear HB; have BK_y3 := n_y2; have HB := n_y8; have BK_y14 := n_y9; have GW_y15 := n_y10; have GE_y16 := n_y11; have NB_y17 := n_y12; have NB_y18 := n_y13; clear n_y2 n_y8 n_y9 n_y10 n_y11 n_y12 n_y13; clear hb hbox hg; have hnb_y19 := NB_y17.out; have hnc_y20 := NB_y18.out; have hcz_y21 := cz BK_y3.out 0 (.int .i64 a0_0); have hcz_y22 := cz BK_y3.out 11 (.int .i64 a0_11); have hcz_y23 := cz BK_y3.out 12 (.int .i64 a0_12); have hcz_y24 := cz BK_y3.out 13 (.int .i64 a0_13); have hcz_y25 := cz BK_y3.out 14 (.int .i64 a0_14); have hcz_y26 := cz BK_y3.out 15 (.int .i64 a0_15); have hcz_y27 := cz BK_y3.out 16 (.int .i64 a0_16); have hcz_y28 := cz BK_y3.out 17 (.int .i64 a0_17); obtain ⟨hcz_y29, hcz_y30, hcz_y31, hcz_y32, hcz_y33, hcz_y34, hcz_y35⟩ := cs7 BK_y14.out; have hfz_y36 := blk_frozen BK_y14.out 0; have hfz_y37 := blk_frozen BK_y14.out 1; have hfz_y38 := blk_frozen BK_y14.out 2; have hfz_y39 := blk_frozen BK_y14.out 3; have hfz_y40 := blk_frozen BK_y14.out 4; have hfz_y41 := blk_frozen BK_y14.out 5; have hfz_y42 := blk_frozen BK_y14.out 6))
 refine bodyPost_ret (results_ct rfl _ _ gb_y6 28 #[.int .i64 0, .int .i64 0, .int .i64 0, .int .i64 0, .int .i64 0, .int .i64 0, .int .i64 0] (0, 0) _ rfl (by (with_reducible repeat (first | refine blk_drewN ?_ _ | refine blk_drew ?_ | refine blk_alloc ?_ _)); refine blk_put (cs := #[.int .i64 0, .int .i64 0, .int .i64 0, .int .i64 0, .int .i64 0, .int .i64 0, .int .i64 0]) ?_ 6 _ rfl; (with_reducible repeat (first | refine blk_drewN ?_ _ | refine blk_drew ?_ | refine blk_alloc ?_ _)); refine blk_put (cs := #[.int .i64 0, .int .i64 0, .int .i64 0, .int .i64 0, .int .i64 0, .int .i64 0, .int .i64 0]) ?_ 5 _ rfl; (with_reducible repeat (first | refine blk_drewN ?_ _ | refine blk_drew ?_ | refine blk_alloc ?_ _)); refine blk_put (cs := #[.int .i64 0, .int .i64 0, .int .i64 0, .int .i64 0, .int .i64 0, .int .i64 0, .int .i64 0]) ?_ 4 _ rfl; (with_reducible repeat (first | refine blk_drewN ?_ _ | refine blk_drew ?_ | refine blk_alloc ?_ _)); refine blk_put (cs := #[.int .i64 0, .int .i64 0, .int .i64 0, .int .i64 0, .int .i64 0, .int .i64 0, .int .i64 0]) ?_ 3 _ rfl; (with_reducible repeat (first | refine blk_drewN ?_ _ | refine blk_drew ?_ | refine blk_alloc ?_ _)); refine blk_put (cs := #[.int .i64 0, .int .i64 0, .int .i64 0, .int .i64 0, .int .i64 0, .int .i64 0, .int .i64 0]) ?_ 2 _ rfl; (with_reducible repeat (first | refine blk_drewN ?_ _ | refine blk_drew ?_ | refine blk_alloc ?_ _)); refine blk_put (cs := #[.int .i64 0, .int .i64 0, .int .i64 0, .int .i64 0, .int .i64 0, .int .i64 0, .int .i64 0]) ?_ 1 _ rfl; (with_reducible repeat (first | refine blk_drewN ?_ _ | refine blk_drew ?_ | refine blk_alloc ?_ _)); refine blk_put (cs := #[.int .i64 0, .int .i64 0, .int .i64 0, .int .i64 0, .int .i64 0, .int .i64 0, .int .i64 0]) ?_ 0 _ rfl; (with_reducible repeat (first | refine blk_drewN ?_ _ | refine blk_drew ?_ | refine blk_alloc ?_ _)); exact BK_y14.out) Try.underlying28 rfl (by kernel_rfl)) rfl ?_
 exact ⟨by first | rfl | (simp [errW_none, errW_some] <;> rfl) | (simp [*, errW_none, errW_some] <;> rfl), by repeat (first | (with_reducible first | exact HB.out | apply below_alloc | apply pw_below_drewN | apply below_drew1 | refine below_set ?_ GE_y5.out | refine below_set ?_ GE_y16.out) | exact HB.out)⟩) : p := h
theorem impl_throughOf.e1 {p : Prop} (h : p := by
 simp only [Option.some.injEq, Prod.mk.injEq] at H
 obtain ⟨rfl, rfl, rfl, rfl, rfl, rfl, rfl, rfl⟩ := H
 go_enter Try.func61, Try.ntmps61
 go_wp2_with (first | ((with_reducible refine gate_dst (N := 1) rfl ?_); refine bx30 (w := w) (N := 1) rfl rfl rfl rfl by0 ?_; intro gb_y0 w_y1 n_y2 BK_y3 GW_y4 GE_y5; clear HB; have HB := n_y2; clear n_y2) | ((with_reducible refine gate_dst (N := 2) rfl ?_); refine box_event ?hg (N := 2) ?hd (cs := #[.int .i64 0, .int .i64 0, .int .i64 0, .int .i64 0, .int .i64 0, .int .i64 0, .int .i64 0]) (t := 28) ?hr ?_; (case hd => rfl); (case hg => rfl); (case hr => first | (go_simp; done) | (go_simp; rfl)); intro gb_y6 hg w_y7 hbox hb; have n_y2 := Aside0.mk (blk_below by26 hb); have n_y8 := Aside0.mk (below_step by25 hb); have n_y9 := Aside0.mk (hbox); have n_y10 := Aside0.mk ((by15 : w.heap.size ≤ gb_y6)); have n_y11 := Aside0.mk ((by15 : w.heap.size ≤ gb_y6)); have n_y12 := Aside0.mk ((by31 : gb_y0 ≠ gb_y6)); have n_y13 := Aside0.mk ((by32 : gb_y6 ≠ gb_y0)); clear BK_y3; clear HB; have BK_y3 := n_y2; have HB := n_y8; have BK_y14 := n_y9; have GW_y15 := n_y10; have GE_y16 := n_y11; have NB_y17 := n_y12; have NB_y18 := n_y13; clear n_y2 n_y8 n_y9 n_y10 n_y11 n_y12 n_y13; clear hb hbox hg; have hnb_y19 := NB_y17.out; have hnc_y20 := NB_y18.out; have hcz_y21 := cz BK_y3.out 0 (.int .i64 a0_0); have hcz_y22 := cz BK_y3.out 11 (.int .i64 a0_11); have hcz_y23 := cz BK_y3.out 12 (.int .i64 a0_12); have hcz_y24 := cz BK_y3.out 13 (.int .i64 a0_13); have hcz_y25 := cz BK_y3.out 14 (.int .i64 a0_14); have hcz_y26 := cz BK_y3.out 15 (.int .i64 a0_15); have hcz_y27 := cz BK_y3.out 16 (.int .i64 a0_16); have hcz_y28 := cz BK_y3.out 17 (.int .i64 a0_17); obtain ⟨hcz_y29, hcz_y30, hcz_y31, hcz_y32, hcz_y33, hcz_y34, hcz_y35⟩ := cs7 BK_y14.out; have hfz_y36 := blk_frozen BK_y14.out 0; have hfz_y37 := blk_frozen BK_y14.out 1; have hfz_y38 := blk_frozen BK_y14.out 2; have hfz_y39 := blk_frozen BK_y14.out 3; have hfz_y40 := blk_frozen BK_y14.out 4; have hfz_y41 := blk_frozen BK_y14.out 5; have hfz_y42 := blk_frozen BK_y14.out 6))
 refine bodyPost_ret (results_ct rfl _ _ gb_y6 28 #[.int .i64 a0_11, .int .i64 a0_12, .int .i64 a0_13, .int .i64 a0_14, .int .i64 a0_15, .int .i64 a0_16, .int .i64 a0_17] (0, 0) _ rfl (by (with_reducible repeat (first | refine blk_drewN ?_ _ | refine blk_drew ?_ | refine blk_alloc ?_ _)); refine blk_put (cs := #[.int .i64 a0_11, .int .i64 a0_12, .int .i64 a0_13, .int .i64 a0_14, .int .i64 a0_15, .int .i64 a0_16, .int .i64 0]) ?_ 6 _ rfl; (with_reducible repeat (first | refine blk_drewN ?_ _ | refine blk_drew ?_ | refine blk_alloc ?_ _)); refine blk_put (cs := #[.int .i64 a0_11, .int .i64 a0_12, .int .i64 a0_13, .int .i64 a0_14, .int .i64 a0_15, .int .i64 0, .int .i64 0]) ?_ 5 _ rfl; (with_reducible repeat (first | refine blk_drewN ?_ _ | refine blk_drew ?_ | refine blk_alloc ?_ _)); refine blk_put (cs := #[.int .i64 a0_11, .int .i64 a0_12, .int .i64 a0_13, .int .i64 a0_14, .int .i64 0, .int .i64 0, .int .i64 0]) ?_ 4 _ rfl; (with_reducible repeat (first | refine blk_drewN ?_ _ | refine blk_drew ?_ | refine blk_alloc ?_ _)); refine blk_put (cs := #[.int .i64 a0_11, .int .i64 a0_12, .int .i64 a0_13, .int .i64 0, .int .i64 0, .int .i64 0, .int .i64 0]) ?_ 3 _ rfl; (with_reducible repeat (first | refine blk_drewN ?_ _ | refine blk_drew ?_ | refine blk_alloc ?_ _)); refine blk_put (cs := #[.int .i64 a0_11, .int .i64 a0_12, .int .i64 0, .int .i64 0, .int .i64 0, .int .i64 0, .int .i64 0]) ?_ 2 _ rfl; (with_reducible repeat (first | refine blk_drewN ?_ _ | refine blk_drew ?_ | refine blk_alloc ?_ _)); refine blk_put (cs := #[.int .i64 a0_11, .int .i64 0, .int .i64 0, .int .i64 0, .int .i64 0, .int .i64 0, .int .i64 0]) ?_ 1 _ rfl; (with_reducible repeat (first | refine blk_drewN ?_ _ | refine blk_drew ?_ | refine blk_alloc ?_ _)); refine blk_put (cs := #[.int .i64 0, .int .i64 0, .int .i64 0, .int .i64 0, .int .i64 0, .int .i64 0, .int .i64 0]) ?_ 0 _ rfl; (with_reducible repeat (first | refine blk_drewN ?_ _ | refine blk_drew ?_ | refine blk_alloc ?_ _)); exact BK_y14.out) Try.underlying28 rfl (by kernel_rfl)) rfl ?_
 exact ⟨by first | rfl | (simp [errW_none, errW_some] <;> rfl) | (simp [*, errW_none, errW_some] <;> rfl), by repeat (first | (with_reducible first | exact HB.out | apply below_alloc | apply pw_below_drewN | apply below_drew1 | refine below_set ?_ GE_y5.out | refine below_set ?_ GE_y16.out) | exact HB.out)⟩) : p := h
set_option maxHeartbeats 8000000 in
set_option maxRecDepth 100000 in
theorem impl_throughOf.calls (a0_0 : Int) (a0_1 : Int) (a0_2 : Int) (a0_3 : Int) (a0_4 : Int) (a0_5 : Int) (a0_6 : Int) (a0_7 : Int) (a0_8 : Int) (a0_9 : Int) (a0_10 : Int) (a0_11 : Int) (a0_12 : Int) (a0_13 : Int) (a0_14 : Int) (a0_15 : Int) (a0_16 : Int) (a0_17 : Int) (a0_18 : Int) (r1 : Int) (r2 : Int) (r3 : Int) (r4 : Int) (r5 : Int) (r6 : Int) (r7 : Int) (r8 : Bool) (w : World) (h : impl_throughOf.f a0_0 a0_1 a0_2 a0_3 a0_4 a0_5 a0_6 a0_7 a0_8 a0_9 a0_10 a0_11 a0_12 a0_13 a0_14 a0_15 a0_16 a0_17 a0_18 = some (r1, r2, r3, r4, r5, r6, r7, r8)) :
  Calls Try.prog 61 #[.agg #[.int .i64 a0_0, .int .i64 a0_1, .int .i64 a0_2, .int .i64 a0_3, .int .i64 a0_4, .int .i64 a0_5, .int .i64 a0_6, .int .i64 a0_7, .int .i64 a0_8, .int .i64 a0_9, .int .i64 a0_10, .int .i64 a0_11, .int .i64 a0_12, .int .i64 a0_13, .int .i64 a0_14, .int .i64 a0_15, .int .i64 a0_16, .int .i64 a0_17, .int .i64 a0_18]] w fun e w' => e = .returned (.tuple #[.agg #[.int .i64 r1, .int .i64 r2, .int .i64 r3, .int .i64 r4, .int .i64 r5, .int .i64 r6, .int .i64 r7], .bool r8]) ∧ Below w.heap.size w w' := by
 have hu30 := Try.underlying30
 have hu28 := Try.underlying28
 have HB := Aside0.mk (Below.refl w.heap.size w)
 have H : (if a0_0 = 31 then (if a0_11 = 3 then (some (0, 0, 0, 0, 0, 0, 0, false)) else (some (a0_11, a0_12, a0_13, a0_14, a0_15, a0_16, a0_17, true))) else (if a0_0 = 32 then (if a0_11 = 3 then (some (0, 0, 0, 0, 0, 0, 0, false)) else (some (a0_11, a0_12, a0_13, a0_14, a0_15, a0_16, a0_17, true))) else (some (0, 0, 0, 0, 0, 0, 0, false)))) = some (r1, r2, r3, r4, r5, r6, r7, r8) := h
 clear h
 by_cases c2 : a0_0 = 31
 ·rw [if_pos c2] at H
  have c2b0 : (a0_0 == 31) = true := beq_iff_eq.mpr c2
  have c2b1 : (a0_0 != 31) = false := bne_eq_false_iff_eq.mpr c2
  clear c2
  by_cases c3 : a0_11 = 3
  ·rw [if_pos c3] at H
   have c3b0 : (a0_11 == 3) = true := beq_iff_eq.mpr c3
   have c3b1 : (a0_11 != 3) = false := bne_eq_false_iff_eq.mpr c3
   clear c3
   exact impl_throughOf.e0
  ·rw [if_neg c3] at H
   have c3b0 : (a0_11 == 3) = false := beq_eq_false_iff_ne.mpr c3
   have c3b1 : (a0_11 != 3) = true := bne_iff_ne.mpr c3
   exact impl_throughOf.e1
 ·rw [if_neg c2] at H
  have c2b0 : (a0_0 == 31) = false := beq_eq_false_iff_ne.mpr c2
  have c2b1 : (a0_0 != 31) = true := bne_iff_ne.mpr c2
  by_cases c14 : a0_0 = 32
  ·rw [if_pos c14] at H
   have c14b0 : (a0_0 == 32) = true := beq_iff_eq.mpr c14
   have c14b1 : (a0_0 != 32) = false := bne_eq_false_iff_eq.mpr c14
   clear c14
   by_cases c15 : a0_11 = 3
   ·rw [if_pos c15] at H
    have c15b0 : (a0_11 == 3) = true := beq_iff_eq.mpr c15
    have c15b1 : (a0_11 != 3) = false := bne_eq_false_iff_eq.mpr c15
    clear c15
    exact impl_throughOf.e0
   ·rw [if_neg c15] at H
    have c15b0 : (a0_11 == 3) = false := beq_eq_false_iff_ne.mpr c15
    have c15b1 : (a0_11 != 3) = true := bne_iff_ne.mpr c15
    exact impl_throughOf.e1
  ·rw [if_neg c14] at H
   have c14b0 : (a0_0 == 32) = false := beq_eq_false_iff_ne.mpr c14
   have c14b1 : (a0_0 != 32) = true := bne_iff_ne.mpr c14
   exact impl_throughOf.e0

/-! ### impl_ThroughOf: function 23 -/
def impl_ThroughOf.f (k : Nat) (a0_0 : Int) (a0_1 : Int) (a0_2 : Int) (a0_3 : Int) (a0_4 : Int) (a0_5 : Int) (a0_6 : Int) (a0_7 : Int) (a0_8 : Int) (a0_9 : Int) (a0_10 : Int) (a0_11 : Int) (a0_12 : Int) (a0_13 : Int) (a0_14 : Int) (a0_15 : Int) (a0_16 : Int) (a0_17 : Int) (a0_18 : Int) : Option (Int × Int × Int × Int × Int × Int × Int × Bool × Int) := (impl_InstrOK.f k a0_0 a0_1 a0_2 a0_3 a0_4 a0_5 a0_6 a0_7 a0_8 a0_9 a0_10 a0_11 a0_12 a0_13 a0_14 a0_15 a0_16 a0_17 a0_18).bind fun t292 => (if t292 = true then ((impl_throughOf.f a0_0 a0_1 a0_2 a0_3 a0_4 a0_5 a0_6 a0_7 a0_8 a0_9 a0_10 a0_11 a0_12 a0_13 a0_14 a0_15 a0_16 a0_17 a0_18).bind fun bt293 => (some (bt293.1, bt293.2.1, bt293.2.2.1, bt293.2.2.2.1, bt293.2.2.2.2.1, bt293.2.2.2.2.2.1, bt293.2.2.2.2.2.2.1, bt293.2.2.2.2.2.2.2, 0))) else (some (0, 0, 0, 0, 0, 0, 0, false, 1)))
theorem impl_ThroughOf.mono : ∀ a0 a1 a2 a3 a4 a5 a6 a7 a8 a9 a10 a11 a12 a13 a14 a15 a16 a17 a18 k, LeO (impl_ThroughOf.f k a0 a1 a2 a3 a4 a5 a6 a7 a8 a9 a10 a11 a12 a13 a14 a15 a16 a17 a18) (impl_ThroughOf.f (k + 1) a0 a1 a2 a3 a4 a5 a6 a7 a8 a9 a10 a11 a12 a13 a14 a15 a16 a17 a18) := by
 intro a0 a1 a2 a3 a4 a5 a6 a7 a8 a9 a10 a11 a12 a13 a14 a15 a16 a17 a18 k
 unfold impl_ThroughOf.f
 repeat' first
   | (with_reducible exact impl_InstrOK.mono _ _ _ _ _ _ _ _ _ _ _ _ _ _ _ _ _ _ _ _)
   | (with_reducible exact LeO.refl _)
   | (with_reducible exact LeO.none _)
   | (with_reducible refine LeO.ite ?_ ?_)
   | (with_reducible refine LeO.bind ?_ (fun _ => ?_))
   | refine LeO.ite ?_ ?_
   | refine LeO.bind ?_ (fun _ => ?_)
set_option maxHeartbeats 8000000 in
set_option maxRecDepth 100000 in
theorem impl_ThroughOf.calls (k : Nat) (a0_0 : Int) (a0_1 : Int) (a0_2 : Int) (a0_3 : Int) (a0_4 : Int) (a0_5 : Int) (a0_6 : Int) (a0_7 : Int) (a0_8 : Int) (a0_9 : Int) (a0_10 : Int) (a0_11 : Int) (a0_12 : Int) (a0_13 : Int) (a0_14 : Int) (a0_15 : Int) (a0_16 : Int) (a0_17 : Int) (a0_18 : Int) (r1 : Int) (r2 : Int) (r3 : Int) (r4 : Int) (r5 : Int) (r6 : Int) (r7 : Int) (r8 : Bool) (r9 : Int) (w : World) (HGL0 : PGlob w) (h : impl_ThroughOf.f k a0_0 a0_1 a0_2 a0_3 a0_4 a0_5 a0_6 a0_7 a0_8 a0_9 a0_10 a0_11 a0_12 a0_13 a0_14 a0_15 a0_16 a0_17 a0_18 = some (r1, r2, r3, r4, r5, r6, r7, r8, r9)) :
  Calls Try.prog 23 #[.agg #[.int .i64 a0_0, .int .i64 a0_1, .int .i64 a0_2, .int .i64 a0_3, .int .i64 a0_4, .int .i64 a0_5, .int .i64 a0_6, .int .i64 a0_7, .int .i64 a0_8, .int .i64 a0_9, .int .i64 a0_10, .int .i64 a0_11, .int .i64 a0_12, .int .i64 a0_13, .int .i64 a0_14, .int .i64 a0_15, .int .i64 a0_16, .int .i64 a0_17, .int .i64 a0_18]] w fun e w' => e = .returned (.tuple #[.agg #[.int .i64 r1, .int .i64 r2, .int .i64 r3, .int .i64 r4, .int .i64 r5, .int .i64 r6, .int .i64 r7], .bool r8, .int .i64 r9]) ∧ Below w.heap.size w w' := by
 have HGL := Aside0.mk HGL0
 clear HGL0
 have hu30 := Try.underlying30
 have hu28 := Try.underlying28
 have HB := Aside0.mk (Below.refl w.heap.size w)
 have H : ((impl_InstrOK.f k a0_0 a0_1 a0_2 a0_3 a0_4 a0_5 a0_6 a0_7 a0_8 a0_9 a0_10 a0_11 a0_12 a0_13 a0_14 a0_15 a0_16 a0_17 a0_18).bind fun t292 => (if t292 = true then ((impl_throughOf.f a0_0 a0_1 a0_2 a0_3 a0_4 a0_5 a0_6 a0_7 a0_8 a0_9 a0_10 a0_11 a0_12 a0_13 a0_14 a0_15 a0_16 a0_17 a0_18).bind fun bt293 => (some (bt293.1, bt293.2.1, bt293.2.2.1, bt293.2.2.2.1, bt293.2.2.2.2.1, bt293.2.2.2.2.2.1, bt293.2.2.2.2.2.2.1, bt293.2.2.2.2.2.2.2, 0))) else (some (0, 0, 0, 0, 0, 0, 0, false, 1)))) = some (r1, r2, r3, r4, r5, r6, r7, r8, r9) := h
 clear h
 replace H := Option.bind_eq_some_iff.mp H
 obtain ⟨t292, A20, H⟩ := H
 replace H : (if t292 = true then ((impl_throughOf.f a0_0 a0_1 a0_2 a0_3 a0_4 a0_5 a0_6 a0_7 a0_8 a0_9 a0_10 a0_11 a0_12 a0_13 a0_14 a0_15 a0_16 a0_17 a0_18).bind fun bt293 => (some (bt293.1, bt293.2.1, bt293.2.2.1, bt293.2.2.2.1, bt293.2.2.2.2.1, bt293.2.2.2.2.2.1, bt293.2.2.2.2.2.2.1, bt293.2.2.2.2.2.2.2, 0))) else (some (0, 0, 0, 0, 0, 0, 0, false, 1))) = some (r1, r2, r3, r4, r5, r6, r7, r8, r9) := H
 have A2 := Aside0.mk A20
 clear A20
 by_cases c3 : t292 = true
 ·subst c3
  have H1 : ((impl_throughOf.f a0_0 a0_1 a0_2 a0_3 a0_4 a0_5 a0_6 a0_7 a0_8 a0_9 a0_10 a0_11 a0_12 a0_13 a0_14 a0_15 a0_16 a0_17 a0_18).bind fun bt293 => (some (bt293.1, bt293.2.1, bt293.2.2.1, bt293.2.2.2.1, bt293.2.2.2.2.1, bt293.2.2.2.2.2.1, bt293.2.2.2.2.2.2.1, bt293.2.2.2.2.2.2.2, 0))) = some (r1, r2, r3, r4, r5, r6, r7, r8, r9) := by rw [if_pos rfl] at H; exact H
  clear H
  have H := H1
  clear H1
  replace H := Option.bind_eq_some_iff.mp H
  obtain ⟨⟨t293, t294, t295, t296, t297, t298, t299, t300⟩, A40, H⟩ := H
  replace H : (some (t293, t294, t295, t296, t297, t298, t299, t300, 0)) = some (r1, r2, r3, r4, r5, r6, r7, r8, r9) := H
  have A4 := Aside0.mk A40
  clear A40
  simp only [Option.some.injEq, Prod.mk.injEq] at H
  obtain ⟨rfl, rfl, rfl, rfl, rfl, rfl, rfl, rfl, rfl⟩ := H
  go_enter Try.func23, Try.ntmps23
  go_wp2_with (first | ((with_reducible refine gate_dst (N := 7) rfl ?_); (try refine gate_guard (by rfl) ?_); refine ldw 30 (.tmp 1) rfl rfl rfl by34 Try.underlying30 rfl by4 ?_) | ((with_reducible refine gate_dst (N := 12) rfl ?_); (try refine gate_guard (by rfl) ?_); refine ldw 30 (.tmp 1) rfl rfl rfl by34 Try.underlying30 rfl by4 ?_) | ((with_reducible refine gate_dst (N := 1) rfl ?_); refine bx30 (w := w) (N := 1) rfl rfl rfl rfl by0 ?_; intro gb290 w5 n0_ BK290 GW290 GE290; clear HB; have HB := n0_; clear n0_) | ((with_reducible refine gate_dst (N := 2) rfl ?_); refine box_event ?hg (N := 2) ?hd (cs := #[.int .i64 0, .int .i64 0, .int .i64 0, .int .i64 0, .int .i64 0, .int .i64 0, .int .i64 0]) (t := 28) ?hr ?_; (case hd => rfl); (case hg => rfl); (case hr => first | (go_simp; done) | (go_simp; rfl)); intro gb291 hg w6 hbox hb; have n0_ := Aside0.mk (blk_below by34 hb); have n1_ := Aside0.mk (below_step by67 hb); have n2_ := Aside0.mk (hbox); have n3_ := Aside0.mk ((by28 : w.heap.size ≤ gb291)); have n4_ := Aside0.mk ((by28 : w.heap.size ≤ gb291)); have n5_ := Aside0.mk ((by48 : gb290 ≠ gb291)); have n6_ := Aside0.mk ((by49 : gb291 ≠ gb290)); clear BK290; clear HB; have BK290 := n0_; have HB := n1_; have BK291 := n2_; have GW291 := n3_; have GE291 := n4_; have NB290_291 := n5_; have NB291_290 := n6_; clear n0_ n1_ n2_ n3_ n4_ n5_ n6_; clear hb hbox hg; have hnb7 := NB290_291.out; have hnc7 := NB291_290.out; obtain ⟨hcz8_0, hcz8_1, hcz8_2, hcz8_3, hcz8_4, hcz8_5, hcz8_6, hcz8_7, hcz8_8, hcz8_9, hcz8_10, hcz8_11, hcz8_12, hcz8_13, hcz8_14, hcz8_15, hcz8_16, hcz8_17, hcz8_18⟩ := cs19 BK290.out) | ((with_reducible refine gate_callee (f := 42) rfl ?_); refine goesL_ (some 8) rfl rfl Try.func42 by4 rfl #[.agg #[.int .i64 a0_0, .int .i64 a0_1, .int .i64 a0_2, .int .i64 a0_3, .int .i64 a0_4, .int .i64 a0_5, .int .i64 a0_6, .int .i64 a0_7, .int .i64 a0_8, .int .i64 a0_9, .int .i64 a0_10, .int .i64 a0_11, .int .i64 a0_12, .int .i64 a0_13, .int .i64 a0_14, .int .i64 a0_15, .int .i64 a0_16, .int .i64 a0_17, .int .i64 a0_18]] rfl by1 ?_; (with_reducible refine (impl_InstrOK.calls (HGL0 := by23) k a0_0 a0_1 a0_2 a0_3 a0_4 a0_5 a0_6 a0_7 a0_8 a0_9 a0_10 a0_11 a0_12 a0_13 a0_14 a0_15 a0_16 a0_17 a0_18 true _ A2.out).mono ?_); rintro e w9 ⟨rfl, hb⟩; refine ⟨_, rfl, ?_⟩; have n0_ := Aside0.mk (blk_below by34 hb); have n1_ := Aside0.mk (blk_below by51 hb); have n2_ := Aside0.mk (below_step by29 hb); clear BK290; clear BK291; clear HB; have BK290 := n0_; have BK291 := n1_; have HB := n2_; clear n0_ n1_ n2_; (try clear hb); (try clear hb2); (try clear hk); (try clear hi); obtain ⟨hcz10_0, hcz10_1, hcz10_2, hcz10_3, hcz10_4, hcz10_5, hcz10_6, hcz10_7, hcz10_8, hcz10_9, hcz10_10, hcz10_11, hcz10_12, hcz10_13, hcz10_14, hcz10_15, hcz10_16, hcz10_17, hcz10_18⟩ := cs19 BK290.out) | ((with_reducible refine gate_callee (f := 61) rfl ?_); refine goesL_ (some 13) rfl rfl Try.func61 by4 rfl _ rfl by1 (Calls.mono (impl_throughOf.calls _ _ _ _ _ _ _ _ _ _ _ _ _ _ _ _ _ _ _ _ _ _ _ _ _ _ _ _ A4.out) ?_); rintro e w11 ⟨rfl, hb⟩; refine ⟨_, rfl, ?_⟩; have n0_ := Aside0.mk (blk_below by34 hb); have n1_ := Aside0.mk (blk_below by51 hb); have n2_ := Aside0.mk (below_step by29 hb); clear BK290; clear BK291; clear HB; have BK290 := n0_; have BK291 := n1_; have HB := n2_; clear n0_ n1_ n2_; (try clear hb); (try clear hb2); (try clear hk); (try clear hi)) | ((with_reducible refine gate_dst (N := 5) rfl ?_); refine box_event ?hg (N := 5) ?hd (cs := #[.int .i64 0, .int .i64 0, .int .i64 0, .int .i64 0, .int .i64 0, .int .i64 0, .int .i64 0]) (t := 28) ?hr ?_; (case hd => rfl); (case hg => rfl); (case hr => first | (go_simp; done) | (go_simp; rfl)); intro gb301 hg w12 hbox hb; have n0_ := Aside0.mk (blk_below by34 hb); have n1_ := Aside0.mk (blk_below by51 hb); have n2_ := Aside0.mk (below_step by29 hb); have n3_ := Aside0.mk (hbox); have n4_ := Aside0.mk ((by53 : w.heap.size ≤ gb301)); have n5_ := Aside0.mk ((by53 : w.heap.size ≤ gb301)); have n6_ := Aside0.mk ((by48 : gb290 ≠ gb301)); have n7_ := Aside0.mk ((by49 : gb301 ≠ gb290)); have n8_ := Aside0.mk ((by100 : gb291 ≠ gb301)); have n9_ := Aside0.mk ((by101 : gb301 ≠ gb291)); clear BK290; clear BK291; clear HB; have BK290 := n0_; have BK291 := n1_; have HB := n2_; have BK301 := n3_; have GW301 := n4_; have GE301 := n5_; have NB290_301 := n6_; have NB301_290 := n7_; have NB291_301 := n8_; have NB301_291 := n9_; clear n0_ n1_ n2_ n3_ n4_ n5_ n6_ n7_ n8_ n9_; clear hb hbox hg; have hnb13 := NB301_290.out; have hnc13 := NB290_301.out; have hnb14 := NB301_291.out; have hnc14 := NB291_301.out; obtain ⟨hcz15_0, hcz15_1, hcz15_2, hcz15_3, hcz15_4, hcz15_5, hcz15_6⟩ := cs7 BK301.out; have hfz15_0 := blk_frozen BK301.out 0; have hfz15_1 := blk_frozen BK301.out 1; have hfz15_2 := blk_frozen BK301.out 2; have hfz15_3 := blk_frozen BK301.out 3; have hfz15_4 := blk_frozen BK301.out 4; have hfz15_5 := blk_frozen BK301.out 5; have hfz15_6 := blk_frozen BK301.out 6; obtain ⟨hcz16_0, hcz16_1, hcz16_2, hcz16_3, hcz16_4, hcz16_5, hcz16_6⟩ := cs7 BK291.out; have hfz16_0 := blk_frozen BK291.out 0; have hfz16_1 := blk_frozen BK291.out 1; have hfz16_2 := blk_frozen BK291.out 2; have hfz16_3 := blk_frozen BK291.out 3; have hfz16_4 := blk_frozen BK291.out 4; have hfz16_5 := blk_frozen BK291.out 5; have hfz16_6 := blk_frozen BK291.out 6))
  refine bodyPost_ret (results_ctt rfl _ _ gb291 28 #[.int .i64 t293, .int .i64 t294, .int .i64 t295, .int .i64 t296, .int .i64 t297, .int .i64 t298, .int .i64 t299] (0, 0) _ rfl (by (with_reducible repeat (first | refine blk_drewN ?_ _ | refine blk_drew ?_ | refine blk_alloc ?_ _)); refine blk_put (cs := #[.int .i64 t293, .int .i64 t294, .int .i64 t295, .int .i64 t296, .int .i64 t297, .int .i64 t298, .int .i64 0]) ?_ 6 _ rfl; (with_reducible repeat (first | refine blk_drewN ?_ _ | refine blk_drew ?_ | refine blk_alloc ?_ _)); refine blk_put (cs := #[.int .i64 t293, .int .i64 t294, .int .i64 t295, .int .i64 t296, .int .i64 t297, .int .i64 0, .int .i64 0]) ?_ 5 _ rfl; (with_reducible repeat (first | refine blk_drewN ?_ _ | refine blk_drew ?_ | refine blk_alloc ?_ _)); refine blk_put (cs := #[.int .i64 t293, .int .i64 t294, .int .i64 t295, .int .i64 t296, .int .i64 0, .int .i64 0, .int .i64 0]) ?_ 4 _ rfl; (with_reducible repeat (first | refine blk_drewN ?_ _ | refine blk_drew ?_ | refine blk_alloc ?_ _)); refine blk_put (cs := #[.int .i64 t293, .int .i64 t294, .int .i64 t295, .int .i64 0, .int .i64 0, .int .i64 0, .int .i64 0]) ?_ 3 _ rfl; (with_reducible repeat (first | refine blk_drewN ?_ _ | refine blk_drew ?_ | refine blk_alloc ?_ _)); refine blk_put (cs := #[.int .i64 t293, .int .i64 t294, .int .i64 0, .int .i64 0, .int .i64 0, .int .i64 0, .int .i64 0]) ?_ 2 _ rfl; (with_reducible repeat (first | refine blk_drewN ?_ _ | refine blk_drew ?_ | refine blk_alloc ?_ _)); refine blk_put (cs := #[.int .i64 t293, .int .i64 0, .int .i64 0, .int .i64 0, .int .i64 0, .int .i64 0, .int .i64 0]) ?_ 1 _ rfl; (with_reducible repeat (first | refine blk_drewN ?_ _ | refine blk_drew ?_ | refine blk_alloc ?_ _)); refine blk_put (cs := #[.int .i64 0, .int .i64 0, .int .i64 0, .int .i64 0, .int .i64 0, .int .i64 0, .int .i64 0]) ?_ 0 _ rfl; (with_reducible repeat (first | refine blk_drewN ?_ _ | refine blk_drew ?_ | refine blk_alloc ?_ _)); refine blk_far ?_ NB291_301.out _; (with_reducible repeat (first | refine blk_drewN ?_ _ | refine blk_drew ?_ | refine blk_alloc ?_ _)); refine blk_far ?_ NB291_301.out _; (with_reducible repeat (first | refine blk_drewN ?_ _ | refine blk_drew ?_ | refine blk_alloc ?_ _)); refine blk_far ?_ NB291_301.out _; (with_reducible repeat (first | refine blk_drewN ?_ _ | refine blk_drew ?_ | refine blk_alloc ?_ _)); refine blk_far ?_ NB291_301.out _; (with_reducible repeat (first | refine blk_drewN ?_ _ | refine blk_drew ?_ | refine blk_alloc ?_ _)); refine blk_far ?_ NB291_301.out _; (with_reducible repeat (first | refine blk_drewN ?_ _ | refine blk_drew ?_ | refine blk_alloc ?_ _)); refine blk_far ?_ NB291_301.out _; (with_reducible repeat (first | refine blk_drewN ?_ _ | refine blk_drew ?_ | refine blk_alloc ?_ _)); refine blk_far ?_ NB291_301.out _; (with_reducible repeat (first | refine blk_drewN ?_ _ | refine blk_drew ?_ | refine blk_alloc ?_ _)); exact BK291.out) Try.underlying28 rfl (by kernel_rfl)) rfl ?_
  exact ⟨by first | rfl | (simp [errW_none, errW_some] <;> rfl) | (simp [*, errW_none, errW_some] <;> rfl), by repeat (first | (with_reducible first | exact HB.out | apply below_alloc | apply pw_below_drewN | apply below_drew1 | refine below_set ?_ GE290.out | refine below_set ?_ GE291.out | refine below_set ?_ GE301.out) | exact HB.out)⟩
 ·replace c3 := Bool.eq_false_iff.mpr c3
  subst c3
  have H1 : (some (0, 0, 0, 0, 0, 0, 0, false, 1)) = some (r1, r2, r3, r4, r5, r6, r7, r8, r9) := by rw [if_neg (show ¬ (false = true) by decide)] at H; exact H
  clear H
  have H := H1
  clear H1
  simp only [Option.some.injEq, Prod.mk.injEq] at H
  obtain ⟨rfl, rfl, rfl, rfl, rfl, rfl, rfl, rfl, rfl⟩ := H
  go_enter Try.func23, Try.ntmps23
  go_wp2_with (first | ((with_reducible refine gate_dst (N := 7) rfl ?_); (try refine gate_guard (by rfl) ?_); refine ldw 30 (.tmp 1) rfl rfl rfl by34 Try.underlying30 rfl by4 ?_) | ((with_reducible refine gate_dst (N := 12) rfl ?_); (try refine gate_guard (by rfl) ?_); refine ldw 30 (.tmp 1) rfl rfl rfl by34 Try.underlying30 rfl by4 ?_) | ((with_reducible refine gate_dst (N := 1) rfl ?_); refine bx30 (w := w) (N := 1) rfl rfl rfl rfl by0 ?_; intro gb290 w17 n0_ BK290 GW290 GE290; clear HB; have HB := n0_; clear n0_) | ((with_reducible refine gate_dst (N := 2) rfl ?_); refine box_event ?hg (N := 2) ?hd (cs := #[.int .i64 0, .int .i64 0, .int .i64 0, .int .i64 0, .int .i64 0, .int .i64 0, .int .i64 0]) (t := 28) ?hr ?_; (case hd => rfl); (case hg => rfl); (case hr => first | (go_simp; done) | (go_simp; rfl)); intro gb291 hg w18 hbox hb; have n0_ := Aside0.mk (blk_below by34 hb); have n1_ := Aside0.mk (below_step by67 hb); have n2_ := Aside0.mk (hbox); have n3_ := Aside0.mk ((by28 : w.heap.size ≤ gb291)); have n4_ := Aside0.mk ((by28 : w.heap.size ≤ gb291)); have n5_ := Aside0.mk ((by48 : gb290 ≠ gb291)); have n6_ := Aside0.mk ((by49 : gb291 ≠ gb290)); clear BK290; clear HB; have BK290 := n0_; have HB := n1_; have BK291 := n2_; have GW291 := n3_; have GE291 := n4_; have NB290_291 := n5_; have NB291_290 := n6_; clear n0_ n1_ n2_ n3_ n4_ n5_ n6_; clear hb hbox hg; have hnb19 := NB290_291.out; have hnc19 := NB291_290.out; obtain ⟨hcz20_0, hcz20_1, hcz20_2, hcz20_3, hcz20_4, hcz20_5, hcz20_6, hcz20_7, hcz20_8, hcz20_9, hcz20_10, hcz20_11, hcz20_12, hcz20_13, hcz20_14, hcz20_15, hcz20_16, hcz20_17, hcz20_18⟩ := cs19 BK290.out) | ((with_reducible refine gate_callee (f := 42) rfl ?_); refine goesL_ (some 8) rfl rfl Try.func42 by4 rfl #[.agg #[.int .i64 a0_0, .int .i64 a0_1, .int .i64 a0_2, .int .i64 a0_3, .int .i64 a0_4, .int .i64 a0_5, .int .i64 a0_6, .int .i64 a0_7, .int .i64 a0_8, .int .i64 a0_9, .int .i64 a0_10, .int .i64 a0_11, .int .i64 a0_12, .int .i64 a0_13, .int .i64 a0_14, .int .i64 a0_15, .int .i64 a0_16, .int .i64 a0_17, .int .i64 a0_18]] rfl by1 ?_; (with_reducible refine (impl_InstrOK.calls (HGL0 := by23) k a0_0 a0_1 a0_2 a0_3 a0_4 a0_5 a0_6 a0_7 a0_8 a0_9 a0_10 a0_11 a0_12 a0_13 a0_14 a0_15 a0_16 a0_17 a0_18 false _ A2.out).mono ?_); rintro e w21 ⟨rfl, hb⟩; refine ⟨_, rfl, ?_⟩; have n0_ := Aside0.mk (blk_below by34 hb); have n1_ := Aside0.mk (blk_below by51 hb); have n2_ := Aside0.mk (below_step by29 hb); clear BK290; clear BK291; clear HB; have BK290 := n0_; have BK291 := n1_; have HB := n2_; clear n0_ n1_ n2_; (try clear hb); (try clear hb2); (try clear hk); (try clear hi); obtain ⟨hcz22_0, hcz22_1, hcz22_2, hcz22_3, hcz22_4, hcz22_5, hcz22_6⟩ := cs7 BK291.out; have hfz22_0 := blk_frozen BK291.out 0; have hfz22_1 := blk_frozen BK291.out 1; have hfz22_2 := blk_frozen BK291.out 2; have hfz22_3 := blk_frozen BK291.out 3; have hfz22_4 := blk_frozen BK291.out 4; have hfz22_5 := blk_frozen BK291.out 5; have hfz22_6 := blk_frozen BK291.out 6))
  refine bodyPost_ret (results_ctt rfl _ _ gb291 28 #[.int .i64 0, .int .i64 0, .int .i64 0, .int .i64 0, .int .i64 0, .int .i64 0, .int .i64 0] (0, 0) _ rfl (by (with_reducible repeat (first | refine blk_drewN ?_ _ | refine blk_drew ?_ | refine blk_alloc ?_ _)); refine blk_put (cs := #[.int .i64 0, .int .i64 0, .int .i64 0, .int .i64 0, .int .i64 0, .int .i64 0, .int .i64 0]) ?_ 6 _ rfl; (with_reducible repeat (first | refine blk_drewN ?_ _ | refine blk_drew ?_ | refine blk_alloc ?_ _)); refine blk_put (cs := #[.int .i64 0, .int .i64 0, .int .i64 0, .int .i64 0, .int .i64 0, .int .i64 0, .int .i64 0]) ?_ 5 _ rfl; (with_reducible repeat (first | refine blk_drewN ?_ _ | refine blk_drew ?_ | refine blk_alloc ?_ _)); refine blk_put (cs := #[.int .i64 0, .int .i64 0, .int .i64 0, .int .i64 0, .int .i64 0, .int .i64 0, .int .i64 0]) ?_ 4 _ rfl; (with_reducible repeat (first | refine blk_drewN ?_ _ | refine blk_drew ?_ | refine blk_alloc ?_ _)); refine blk_put (cs := #[.int .i64 0, .int .i64 0, .int .i64 0, .int .i64 0, .int .i64 0, .int .i64 0, .int .i64 0]) ?_ 3 _ rfl; (with_reducible repeat (first | refine blk_drewN ?_ _ | refine blk_drew ?_ | refine blk_alloc ?_ _)); refine blk_put (cs := #[.int .i64 0, .int .i64 0, .int .i64 0, .int .i64 0, .int .i64 0, .int .i64 0, .int .i64 0]) ?_ 2 _ rfl; (with_reducible repeat (first | refine blk_drewN ?_ _ | refine blk_drew ?_ | refine blk_alloc ?_ _)); refine blk_put (cs := #[.int .i64 0, .int .i64 0, .int .i64 0, .int .i64 0, .int .i64 0, .int .i64 0, .int .i64 0]) ?_ 1 _ rfl; (with_reducible repeat (first | refine blk_drewN ?_ _ | refine blk_drew ?_ | refine blk_alloc ?_ _)); refine blk_put (cs := #[.int .i64 0, .int .i64 0, .int .i64 0, .int .i64 0, .int .i64 0, .int .i64 0, .int .i64 0]) ?_ 0 _ rfl; (with_reducible repeat (first | refine blk_drewN ?_ _ | refine blk_drew ?_ | refine blk_alloc ?_ _)); exact BK291.out) Try.underlying28 rfl (by kernel_rfl)) rfl ?_
  exact ⟨by first | rfl | (simp [errW_none, errW_some] <;> rfl) | (simp [*, errW_none, errW_some] <;> rfl), by repeat (first | (with_reducible first | exact HB.out | apply below_alloc | apply pw_below_drewN | apply below_drew1 | refine below_set ?_ GE290.out | refine below_set ?_ GE291.out) | exact HB.out)⟩

/-! ### laws_eqOperand: function 24 -/
def laws_eqOperand.f (a0_0 : Int) (a0_1 : Int) (a0_2 : Int) (a0_3 : Int) (a0_4 : Int) (a0_5 : Int) (a0_6 : Int) (a1_0 : Int) (a1_1 : Int) (a1_2 : Int) (a1_3 : Int) (a1_4 : Int) (a1_5 : Int) (a1_6 : Int) : Option (Bool) := if a0_0 = a1_0 then (if a0_1 = a1_1 then (if a0_2 = a1_2 then (if a0_3 = a1_3 then (if a0_4 = a1_4 then (if a0_5 = a1_5 then (if a0_6 = a1_6 then (some true) else (some false)) else (some false)) else (some false)) else (some false)) else (some false)) else (some false)) else (some false)
theorem laws_eqOperand.e0 {p : Prop} (h : p := by
 obtain rfl := Option.some.inj H
 go_enter Try.func24, Try.ntmps24
 go_wp2_with (first | ((with_reducible refine gate_dst (N := 2) rfl ?_); refine bx28 (w := w) (N := 2) rfl rfl rfl rfl by0 ?_; intro gb_y0 w_y1 n_y2 BK_y3 GW_y4 GE_y5; clear HB; have HB := n_y2; clear n_y2) | ((with_reducible refine gate_dst (N := 3) rfl ?_); refine bxe28 (N := 3) rfl rfl rfl rfl ?_; intro gb_y6 hg w_y7 hbox hb; have n_y2 := Aside0.mk (blk_below by26 hb); have n_y8 := Aside0.mk (below_step by25 hb); have n_y9 := Aside0.mk (hbox); have n_y10 := Aside0.mk ((by15 : w.heap.size ≤ gb_y6)); have n_y11 := Aside0.mk ((by15 : w.heap.size ≤ gb_y6)); have n_y12 := Aside0.mk ((by31 : gb_y0 ≠ gb_y6)); have n_y13 := Aside0.mk ((by32 : gb_y6 ≠ gb_y0)); clear BK_y3; clear HB; have BK_y3 := n_y2; have HB := n_y8; have BK_y14 := n_y9; have GW_y15 := n_y10; have GE_y16 := n_y11; have NB_y17 := n_y12; have NB_y18 := n_y13; clear n_y2 n_y8 n_y9 n_y10 n_y11 n_y12 n_y13; clear hb hbox hg; have hnb_y19 := NB_y17.out; have hnc_y20 := NB_y18.out; obtain ⟨hcz_y21, hcz_y22, hcz_y23, hcz_y24, hcz_y25, hcz_y26, hcz_y27⟩ := cs7 BK_y3.out; obtain ⟨hcz_y28, hcz_y29, hcz_y30, hcz_y31, hcz_y32, hcz_y33, hcz_y34⟩ := cs7 BK_y14.out))
 go_ret
 exact ⟨by first | rfl | (simp [errW_none, errW_some] <;> rfl) | (simp [*, errW_none, errW_some] <;> rfl), by repeat (first | (with_reducible first | exact HB.out | apply below_alloc | apply pw_below_drewN | apply below_drew1 | refine below_set ?_ GE_y5.out | refine below_set ?_ GE_y16.out) | exact HB.out)⟩) : p := h
set_option maxHeartbeats 8000000 in
set_option maxRecDepth 100000 in
theorem laws_eqOperand.calls (a0_0 : Int) (a0_1 : Int) (a0_2 : Int) (a0_3 : Int) (a0_4 : Int) (a0_5 : Int) (a0_6 : Int) (a1_0 : Int) (a1_1 : Int) (a1_2 : Int) (a1_3 : Int) (a1_4 : Int) (a1_5 : Int) (a1_6 : Int) (r : Bool) (w : World) (h : laws_eqOperand.f a0_0 a0_1 a0_2 a0_3 a0_4 a0_5 a0_6 a1_0 a1_1 a1_2 a1_3 a1_4 a1_5 a1_6 = some r) :
  Calls Try.prog 24 #[.agg #[.int .i64 a0_0, .int .i64 a0_1, .int .i64 a0_2, .int .i64 a0_3, .int .i64 a0_4, .int .i64 a0_5, .int .i64 a0_6], .agg #[.int .i64 a1_0, .int .i64 a1_1, .int .i64 a1_2, .int .i64 a1_3, .int .i64 a1_4, .int .i64 a1_5, .int .i64 a1_6]] w fun e w' => e = .returned (.bool r) ∧ Below w.heap.size w w' := by
 have hu28 := Try.underlying28
 have HB := Aside0.mk (Below.refl w.heap.size w)
 have H : (if a0_0 = a1_0 then (if a0_1 = a1_1 then (if a0_2 = a1_2 then (if a0_3 = a1_3 then (if a0_4 = a1_4 then (if a0_5 = a1_5 then (if a0_6 = a1_6 then (some true) else (some false)) else (some false)) else (some false)) else (some false)) else (some false)) else (some false)) else (some false)) = some r := h
 clear h
 by_cases c3 : a0_0 = a1_0
 ·rw [if_pos c3] at H
  have c3b0 : (a0_0 == a1_0) = true := beq_iff_eq.mpr c3
  have c3b1 : (a0_0 != a1_0) = false := bne_eq_false_iff_eq.mpr c3
  clear c3
  by_cases c4 : a0_1 = a1_1
  ·rw [if_pos c4] at H
   have c4b0 : (a0_1 == a1_1) = true := beq_iff_eq.mpr c4
   have c4b1 : (a0_1 != a1_1) = false := bne_eq_false_iff_eq.mpr c4
   clear c4
   by_cases c5 : a0_2 = a1_2
   ·rw [if_pos c5] at H
    have c5b0 : (a0_2 == a1_2) = true := beq_iff_eq.mpr c5
    have c5b1 : (a0_2 != a1_2) = false := bne_eq_false_iff_eq.mpr c5
    clear c5
    by_cases c6 : a0_3 = a1_3
    ·rw [if_pos c6] at H
     have c6b0 : (a0_3 == a1_3) = true := beq_iff_eq.mpr c6
     have c6b1 : (a0_3 != a1_3) = false := bne_eq_false_iff_eq.mpr c6
     clear c6
     by_cases c7 : a0_4 = a1_4
     ·rw [if_pos c7] at H
      have c7b0 : (a0_4 == a1_4) = true := beq_iff_eq.mpr c7
      have c7b1 : (a0_4 != a1_4) = false := bne_eq_false_iff_eq.mpr c7
      clear c7
      by_cases c8 : a0_5 = a1_5
      ·rw [if_pos c8] at H
       have c8b0 : (a0_5 == a1_5) = true := beq_iff_eq.mpr c8
       have c8b1 : (a0_5 != a1_5) = false := bne_eq_false_iff_eq.mpr c8
       clear c8
       by_cases c9 : a0_6 = a1_6
       ·rw [if_pos c9] at H
        have c9b0 : (a0_6 == a1_6) = true := beq_iff_eq.mpr c9
        have c9b1 : (a0_6 != a1_6) = false := bne_eq_false_iff_eq.mpr c9
        clear c9
        exact laws_eqOperand.e0
       ·rw [if_neg c9] at H
        have c9b0 : (a0_6 == a1_6) = false := beq_eq_false_iff_ne.mpr c9
        have c9b1 : (a0_6 != a1_6) = true := bne_iff_ne.mpr c9
        exact laws_eqOperand.e0
      ·rw [if_neg c8] at H
       have c8b0 : (a0_5 == a1_5) = false := beq_eq_false_iff_ne.mpr c8
       have c8b1 : (a0_5 != a1_5) = true := bne_iff_ne.mpr c8
       exact laws_eqOperand.e0
     ·rw [if_neg c7] at H
      have c7b0 : (a0_4 == a1_4) = false := beq_eq_false_iff_ne.mpr c7
      have c7b1 : (a0_4 != a1_4) = true := bne_iff_ne.mpr c7
      exact laws_eqOperand.e0
    ·rw [if_neg c6] at H
     have c6b0 : (a0_3 == a1_3) = false := beq_eq_false_iff_ne.mpr c6
     have c6b1 : (a0_3 != a1_3) = true := bne_iff_ne.mpr c6
     exact laws_eqOperand.e0
   ·rw [if_neg c5] at H
    have c5b0 : (a0_2 == a1_2) = false := beq_eq_false_iff_ne.mpr c5
    have c5b1 : (a0_2 != a1_2) = true := bne_iff_ne.mpr c5
    exact laws_eqOperand.e0
  ·rw [if_neg c4] at H
   have c4b0 : (a0_1 == a1_1) = false := beq_eq_false_iff_ne.mpr c4
   have c4b1 : (a0_1 != a1_1) = true := bne_iff_ne.mpr c4
   exact laws_eqOperand.e0
 ·rw [if_neg c3] at H
  have c3b0 : (a0_0 == a1_0) = false := beq_eq_false_iff_ne.mpr c3
  have c3b1 : (a0_0 != a1_0) = true := bne_iff_ne.mpr c3
  exact laws_eqOperand.e0

/-! ### laws_FnExactThroughOf: function 6 -/
def laws_FnExactThroughOf.f (k : Nat) (a0_0 : Int) (a0_1 : Int) (a0_2 : Int) (a0_3 : Int) (a0_4 : Int) (a0_5 : Int) (a0_6 : Int) (a0_7 : Int) (a0_8 : Int) (a0_9 : Int) (a0_10 : Int) (a0_11 : Int) (a0_12 : Int) (a0_13 : Int) (a0_14 : Int) (a0_15 : Int) (a0_16 : Int) (a0_17 : Int) (a0_18 : Int) : Option (Bool) := (laws_toInstr.f a0_0 a0_1 a0_2 a0_3 a0_4 a0_5 a0_6 a0_7 a0_8 a0_9 a0_10 a0_11 a0_12 a0_13 a0_14 a0_15 a0_16 a0_17 a0_18).bind fun bt305 => ((spec_ThroughOf.f k bt305.1 bt305.2.1 bt305.2.2.1 bt305.2.2.2.1 bt305.2.2.2.2.1 bt305.2.2.2.2.2.1 bt305.2.2.2.2.2.2.1 bt305.2.2.2.2.2.2.2.1 bt305.2.2.2.2.2.2.2.2.1 bt305.2.2.2.2.2.2.2.2.2.1 bt305.2.2.2.2.2.2.2.2.2.2.1 bt305.2.2.2.2.2.2.2.2.2.2.2.1 bt305.2.2.2.2.2.2.2.2.2.2.2.2.1 bt305.2.2.2.2.2.2.2.2.2.2.2.2.2.1 bt305.2.2.2.2.2.2.2.2.2.2.2.2.2.2.1 bt305.2.2.2.2.2.2.2.2.2.2.2.2.2.2.2.1 bt305.2.2.2.2.2.2.2.2.2.2.2.2.2.2.2.2.1 bt305.2.2.2.2.2.2.2.2.2.2.2.2.2.2.2.2.2.1 bt305.2.2.2.2.2.2.2.2.2.2.2.2.2.2.2.2.2.2).bind fun bt324 => ((laws_toInstr.f a0_0 a0_1 a0_2 a0_3 a0_4 a0_5 a0_6 a0_7 a0_8 a0_9 a0_10 a0_11 a0_12 a0_13 a0_14 a0_15 a0_16 a0_17 a0_18).bind fun bt334 => ((impl_ThroughOf.f k bt334.1 bt334.2.1 bt334.2.2.1 bt334.2.2.2.1 bt334.2.2.2.2.1 bt334.2.2.2.2.2.1 bt334.2.2.2.2.2.2.1 bt334.2.2.2.2.2.2.2.1 bt334.2.2.2.2.2.2.2.2.1 bt334.2.2.2.2.2.2.2.2.2.1 bt334.2.2.2.2.2.2.2.2.2.2.1 bt334.2.2.2.2.2.2.2.2.2.2.2.1 bt334.2.2.2.2.2.2.2.2.2.2.2.2.1 bt334.2.2.2.2.2.2.2.2.2.2.2.2.2.1 bt334.2.2.2.2.2.2.2.2.2.2.2.2.2.2.1 bt334.2.2.2.2.2.2.2.2.2.2.2.2.2.2.2.1 bt334.2.2.2.2.2.2.2.2.2.2.2.2.2.2.2.2.1 bt334.2.2.2.2.2.2.2.2.2.2.2.2.2.2.2.2.2.1 bt334.2.2.2.2.2.2.2.2.2.2.2.2.2.2.2.2.2.2).bind fun bt353 => ((laws_eqOperand.f bt353.1 bt353.2.1 bt353.2.2.1 bt353.2.2.2.1 bt353.2.2.2.2.1 bt353.2.2.2.2.2.1 bt353.2.2.2.2.2.2.1 bt324.1 bt324.2.1 bt324.2.2.1 bt324.2.2.2.1 bt324.2.2.2.2.1 bt324.2.2.2.2.2.1 bt324.2.2.2.2.2.2.1).bind fun t363 => (if t363 = true then (if (bt353.2.2.2.2.2.2.2.1 != bt324.2.2.2.2.2.2.2.1) = true then (some false) else (if bt353.2.2.2.2.2.2.2.2 = bt324.2.2.2.2.2.2.2.2 then (some true) else (some false))) else (some false))))))
theorem laws_FnExactThroughOf.mono : ∀ a0 a1 a2 a3 a4 a5 a6 a7 a8 a9 a10 a11 a12 a13 a14 a15 a16 a17 a18 k, LeO (laws_FnExactThroughOf.f k a0 a1 a2 a3 a4 a5 a6 a7 a8 a9 a10 a11 a12 a13 a14 a15 a16 a17 a18) (laws_FnExactThroughOf.f (k + 1) a0 a1 a2 a3 a4 a5 a6 a7 a8 a9 a10 a11 a12 a13 a14 a15 a16 a17 a18) := by
  intro a0 a1 a2 a3 a4 a5 a6 a7 a8 a9 a10 a11 a12 a13 a14 a15 a16 a17 a18 k
  unfold laws_FnExactThroughOf.f
  repeat' first
      | (with_reducible exact impl_ThroughOf.mono _ _ _ _ _ _ _ _ _ _ _ _ _ _ _ _ _ _ _ _)
      | (with_reducible exact spec_ThroughOf.mono _ _ _ _ _ _ _ _ _ _ _ _ _ _ _ _ _ _ _ _)
      | (with_reducible exact LeO.refl _)
      | (with_reducible exact LeO.none _)
      | (with_reducible refine LeO.ite ?_ ?_)
      | (with_reducible refine LeO.bind ?_ (fun _ => ?_))
      | refine LeO.ite ?_ ?_
      | refine LeO.bind ?_ (fun _ => ?_)
theorem laws_FnExactThroughOf.e0 {p : Prop} (h : p := by
  obtain rfl := Option.some.inj H
  go_enter Try.func6, Try.ntmps6
  go_wp2_with (first | ((with_reducible refine gate_dst (N := 10) rfl ?_); (try refine gate_guard (by rfl) ?_); refine ldw 25 (.tmp 1) rfl rfl rfl by71 Try.underlying25 rfl by4 ?_) | ((with_reducible refine gate_dst (N := 17) rfl ?_); (try refine gate_guard (by rfl) ?_); refine ldw 25 (.tmp 1) rfl rfl rfl by71 Try.underlying25 rfl by4 ?_) | ((with_reducible refine gate_store (p := .tmp 3) (x := .tmp 13) rfl ?_); refine stw (w := w) 28 (.tmp 3) (.tmp 13) rfl rfl rfl rfl by109 by4 (by rfl) (by simp [Value.oneCell']) GE333.out by0 ?_; intro wv_y0 n_y1 n_y2 hk_; have m_y3 := Aside0.mk (hk_ _ _ NB304_333.out by71); have n_y4 := Aside0.mk n_y1; have n_y5 := Aside0.mk n_y2; clear HB BK333 BK304 hk_ n_y1 n_y2; have HB := n_y4; have BK333 := n_y5; have BK304 := m_y3; clear n_y4 n_y5 m_y3) | ((with_reducible refine gate_dst (N := 24) rfl ?_); (try refine gate_guard (by rfl) ?_); refine ldw 28 (.tmp 3) rfl rfl rfl by109 Try.underlying28 rfl by4 ?_) | ((with_reducible refine gate_store (p := .tmp 6) (x := .tmp 20) rfl ?_); refine stw (w := w) 28 (.tmp 6) (.tmp 20) rfl rfl rfl rfl (by (with_reducible repeat (first | refine blk_drewN ?_ _ | refine blk_drew ?_ | refine blk_alloc ?_ _)); exact BK362.out) by4 (by rfl) (by simp [Value.oneCell']) GE362.out by0 ?_; intro wv_y6 n_y1 n_y2 hk_; have m_y3 := Aside0.mk (hk_ _ _ NB304_362.out by71); have m_y7 := Aside0.mk (hk_ _ _ NB333_362.out by109); have n_y4 := Aside0.mk n_y1; have n_y5 := Aside0.mk n_y2; clear HB BK362 BK304 BK333 hk_ n_y1 n_y2; have HB := n_y4; have BK362 := n_y5; have BK304 := m_y3; have BK333 := m_y7; clear n_y4 n_y5 m_y3 m_y7) | ((with_reducible refine gate_dst (N := 23) rfl ?_); (try refine gate_guard (by rfl) ?_); refine ldw 28 (.tmp 6) rfl rfl rfl (by (with_reducible repeat (first | refine blk_drewN ?_ _ | refine blk_drew ?_ | refine blk_alloc ?_ _)); exact BK362.out) Try.underlying28 rfl by4 ?_) | ((with_reducible refine gate_dst (N := 1) rfl ?_); refine bx25 (w := w) (N := 1) rfl rfl rfl rfl by0 ?_; intro gb_y8 w_y9 n_y1 BK304 GW_y10 GE_y11; clear HB; have HB := n_y1; clear n_y1; obtain ⟨hcz_y12, hcz_y13, hcz_y14, hcz_y15, hcz_y16, hcz_y17, hcz_y18, hcz_y19, hcz_y20, hcz_y21, hcz_y22, hcz_y23, hcz_y24, hcz_y25, hcz_y26, hcz_y27, hcz_y28, hcz_y29, hcz_y30⟩ := cs19 BK304.out) | ((with_reducible refine gate_callee (f := 16) rfl ?_); refine goesL_ (some 11) rfl rfl Try.func16 by4 rfl _ rfl by1 (Calls.mono (laws_toInstr.calls _ _ _ _ _ _ _ _ _ _ _ _ _ _ _ _ _ _ _ _ _ _ _ _ _ _ _ _ _ _ _ _ _ _ _ _ _ _ _ A2.out) ?_); rintro e w_y31 ⟨rfl, hb⟩; refine ⟨_, rfl, ?_⟩; have n_y1 := Aside0.mk (blk_below by71 hb); have n_y2 := Aside0.mk (below_step (by repeat (first | (with_reducible first | exact HB.out | apply below_alloc | apply pw_below_drewN | apply below_drew1 | refine below_set ?_ GE_y11.out) | exact HB.out)) hb); clear BK304; clear HB; have BK304 := n_y1; have HB := n_y2; clear n_y1 n_y2; (try clear hb); (try clear hb2); (try clear hk); (try clear hi)) | ((with_reducible refine gate_callee (f := 22) rfl ?_); refine goesL_ (some 12) rfl rfl Try.func22 by4 rfl _ rfl by1 (Calls.mono (spec_ThroughOf.calls _ _ _ _ _ _ _ _ _ _ _ _ _ _ _ _ _ _ _ _ _ _ _ _ _ _ _ _ _ _ A3.out) ?_); rintro e w_y32 ⟨rfl, hb⟩; refine ⟨_, rfl, ?_⟩; have n_y1 := Aside0.mk (blk_below by71 hb); have n_y2 := Aside0.mk (below_step (by repeat (first | (with_reducible first | exact HB.out | apply below_alloc | apply pw_below_drewN | apply below_drew1 | refine below_set ?_ GE_y11.out) | exact HB.out)) hb); clear BK304; clear HB; have BK304 := n_y1; have HB := n_y2; clear n_y1 n_y2; (try clear hb); (try clear hb2); (try clear hk); (try clear hi)) | ((with_reducible refine gate_dst (N := 3) rfl ?_); refine box_event ?hg (N := 3) ?hd (cs := #[.int .i64 0, .int .i64 0, .int .i64 0, .int .i64 0, .int .i64 0, .int .i64 0, .int .i64 0]) (t := 28) ?hr ?_; (case hd => rfl); (case hg => rfl); (case hr => first | (go_simp; done) | (go_simp; rfl)); intro gb_y33 hg w_y34 hbox hb; have n_y1 := Aside0.mk (blk_below by71 hb); have n_y2 := Aside0.mk (below_step (by repeat (first | (with_reducible first | exact HB.out | apply below_alloc | apply pw_below_drewN | apply below_drew1 | refine below_set ?_ GE_y11.out) | exact HB.out)) hb); have n_y4 := Aside0.mk (hbox); have n_y5 := Aside0.mk ((by rw [hg]; exact (below_size (by repeat (first | (with_reducible first | exact HB.out | apply below_alloc | apply pw_below_drewN | apply below_drew1 | refine below_set ?_ GE_y11.out) | exact HB.out))) : w.heap.size ≤ gb_y33)); have n_y35 := Aside0.mk ((by rw [hg]; exact (below_size (by repeat (first | (with_reducible first | exact HB.out | apply below_alloc | apply pw_below_drewN | apply below_drew1 | refine below_set ?_ GE_y11.out) | exact HB.out))) : w.heap.size ≤ gb_y33)); have n_y36 := Aside0.mk ((by102 : gb_y8 ≠ gb_y33)); have n_y37 := Aside0.mk ((by103 : gb_y33 ≠ gb_y8)); clear BK304; clear HB; have BK304 := n_y1; have HB := n_y2; have BK333 := n_y4; have GW_y38 := n_y5; have GE333 := n_y35; have NB304_333 := n_y36; have NB_y39 := n_y37; clear n_y1 n_y2 n_y4 n_y5 n_y35 n_y36 n_y37; clear hb hbox hg; have hnb_y40 := NB_y39.out; have hnc_y41 := NB304_333.out; obtain ⟨hcz_y42, hcz_y43, hcz_y44, hcz_y45, hcz_y46, hcz_y47, hcz_y48⟩ := cs7 BK333.out; have hfz_y49 := blk_frozen BK333.out 0; have hfz_y50 := blk_frozen BK333.out 1; have hfz_y51 := blk_frozen BK333.out 2; have hfz_y52 := blk_frozen BK333.out 3; have hfz_y53 := blk_frozen BK333.out 4; have hfz_y54 := blk_frozen BK333.out 5; have hfz_y55 := blk_frozen BK333.out 6; obtain ⟨hcz_y56, hcz_y57, hcz_y58, hcz_y59, hcz_y60, hcz_y61, hcz_y62, hcz_y63, hcz_y64, hcz_y65, hcz_y66, hcz_y67, hcz_y68, hcz_y69, hcz_y70, hcz_y71, hcz_y72, hcz_y73, hcz_y74⟩ := cs19 BK304.out) | ((with_reducible refine gate_callee (f := 16) rfl ?_); refine goesL_ (some 18) rfl rfl Try.func16 by4 rfl _ rfl by1 (Calls.mono (laws_toInstr.calls _ _ _ _ _ _ _ _ _ _ _ _ _ _ _ _ _ _ _ _ _ _ _ _ _ _ _ _ _ _ _ _ _ _ _ _ _ _ _ A4.out) ?_); rintro e w_y75 ⟨rfl, hb⟩; refine ⟨_, rfl, ?_⟩; have n_y1 := Aside0.mk (blk_below by71 hb); have n_y2 := Aside0.mk (blk_below by109 hb); have n_y4 := Aside0.mk (below_step (by repeat (first | (with_reducible first | exact HB.out | apply below_alloc | apply pw_below_drewN | apply below_drew1 | refine below_set ?_ GE_y11.out | refine below_set ?_ GE333.out) | exact HB.out)) hb); clear BK304; clear BK333; clear HB; have BK304 := n_y1; have BK333 := n_y2; have HB := n_y4; clear n_y1 n_y2 n_y4; (try clear hb); (try clear hb2); (try clear hk); (try clear hi)) | ((with_reducible refine gate_callee (f := 23) rfl ?_); refine goesL_ (some 19) rfl rfl Try.func23 by4 rfl #[.agg #[.int .i64 t334, .int .i64 t335, .int .i64 t336, .int .i64 t337, .int .i64 t338, .int .i64 t339, .int .i64 t340, .int .i64 t341, .int .i64 t342, .int .i64 t343, .int .i64 t344, .int .i64 t345, .int .i64 t346, .int .i64 t347, .int .i64 t348, .int .i64 t349, .int .i64 t350, .int .i64 t351, .int .i64 t352]] rfl by1 ?_; (with_reducible refine (impl_ThroughOf.calls (HGL0 := by23) k t334 t335 t336 t337 t338 t339 t340 t341 t342 t343 t344 t345 t346 t347 t348 t349 t350 t351 t352 t353 t354 t355 t356 t357 t358 t359 t360 t361 _ A5.out).mono ?_); rintro e w_y76 ⟨rfl, hb⟩; refine ⟨_, rfl, ?_⟩; have n_y1 := Aside0.mk (blk_below by71 hb); have n_y2 := Aside0.mk (blk_below by109 hb); have n_y4 := Aside0.mk (below_step (by repeat (first | (with_reducible first | exact HB.out | apply below_alloc | apply pw_below_drewN | apply below_drew1 | refine below_set ?_ GE_y11.out | refine below_set ?_ GE333.out) | exact HB.out)) hb); clear BK304; clear BK333; clear HB; have BK304 := n_y1; have BK333 := n_y2; have HB := n_y4; clear n_y1 n_y2 n_y4; (try clear hb); (try clear hb2); (try clear hk); (try clear hi)) | ((with_reducible refine gate_dst (N := 6) rfl ?_); refine box_event ?hg (N := 6) ?hd (cs := #[.int .i64 0, .int .i64 0, .int .i64 0, .int .i64 0, .int .i64 0, .int .i64 0, .int .i64 0]) (t := 28) ?hr ?_; (case hd => rfl); (case hg => rfl); (case hr => first | (go_simp; done) | (go_simp; rfl)); intro gb_y77 hg w_y78 hbox hb; have n_y1 := Aside0.mk (blk_below by71 hb); have n_y2 := Aside0.mk (blk_below by109 hb); have n_y4 := Aside0.mk (below_step (by repeat (first | (with_reducible first | exact HB.out | apply below_alloc | apply pw_below_drewN | apply below_drew1 | refine below_set ?_ GE_y11.out | refine below_set ?_ GE333.out) | exact HB.out)) hb); have n_y5 := Aside0.mk (hbox); have n_y35 := Aside0.mk ((by rw [hg]; exact (below_size (by repeat (first | (with_reducible first | exact HB.out | apply below_alloc | apply pw_below_drewN | apply below_drew1 | refine below_set ?_ GE_y11.out | refine below_set ?_ GE333.out) | exact HB.out))) : w.heap.size ≤ gb_y77)); have n_y36 := Aside0.mk ((by rw [hg]; exact (below_size (by repeat (first | (with_reducible first | exact HB.out | apply below_alloc | apply pw_below_drewN | apply below_drew1 | refine below_set ?_ GE_y11.out | refine below_set ?_ GE333.out) | exact HB.out))) : w.heap.size ≤ gb_y77)); have n_y37 := Aside0.mk ((by102 : gb_y8 ≠ gb_y77)); have n_y79 := Aside0.mk ((by103 : gb_y77 ≠ gb_y8)); have n_y80 := Aside0.mk ((by rw [hg]; exact Nat.ne_of_lt (blk_lt by109) : gb_y33 ≠ gb_y77)); have n_y81 := Aside0.mk ((by rw [hg]; exact Nat.ne_of_gt (blk_lt by109) : gb_y77 ≠ gb_y33)); clear BK304; clear BK333; clear HB; have BK304 := n_y1; have BK333 := n_y2; have HB := n_y4; have BK362 := n_y5; have GW_y82 := n_y35; have GE362 := n_y36; have NB304_362 := n_y37; have NB_y83 := n_y79; have NB333_362 := n_y80; have NB_y84 := n_y81; clear n_y1 n_y2 n_y4 n_y5 n_y35 n_y36 n_y37 n_y79 n_y80 n_y81; clear hb hbox hg; have hnb_y85 := NB_y83.out; have hnc_y86 := NB304_362.out; have hnb_y87 := NB_y84.out; have hnc_y88 := NB333_362.out; obtain ⟨hcz_y89, hcz_y90, hcz_y91, hcz_y92, hcz_y93, hcz_y94, hcz_y95⟩ := cs7 BK362.out; have hfz_y96 := blk_frozen BK362.out 0; have hfz_y97 := blk_frozen BK362.out 1; have hfz_y98 := blk_frozen BK362.out 2; have hfz_y99 := blk_frozen BK362.out 3; have hfz_y100 := blk_frozen BK362.out 4; have hfz_y101 := blk_frozen BK362.out 5; have hfz_y102 := blk_frozen BK362.out 6; obtain ⟨hcz_y103, hcz_y104, hcz_y105, hcz_y106, hcz_y107, hcz_y108, hcz_y109⟩ := cs7 BK333.out; have hfz_y110 := blk_frozen BK333.out 0; have hfz_y111 := blk_frozen BK333.out 1; have hfz_y112 := blk_frozen BK333.out 2; have hfz_y113 := blk_frozen BK333.out 3; have hfz_y114 := blk_frozen BK333.out 4; have hfz_y115 := blk_frozen BK333.out 5; have hfz_y116 := blk_frozen BK333.out 6) | ((with_reducible refine gate_callee (f := 24) rfl ?_); refine goesL_ (some 25) rfl rfl Try.func24 by4 rfl #[.agg #[.int .i64 t353, .int .i64 t354, .int .i64 t355, .int .i64 t356, .int .i64 t357, .int .i64 t358, .int .i64 t359], .agg #[.int .i64 t324, .int .i64 t325, .int .i64 t326, .int .i64 t327, .int .i64 t328, .int .i64 t329, .int .i64 t330]] rfl by1 ?_; (with_reducible refine (laws_eqOperand.calls t353 t354 t355 t356 t357 t358 t359 t324 t325 t326 t327 t328 t329 t330 true _ A6.out).mono ?_); rintro e w_y117 ⟨rfl, hb⟩; refine ⟨_, rfl, ?_⟩; have n_y1 := Aside0.mk (blk_below by71 hb); have n_y2 := Aside0.mk (blk_below by109 hb); have n_y4 := Aside0.mk (blk_below (by (with_reducible repeat (first | refine blk_drewN ?_ _ | refine blk_drew ?_ | refine blk_alloc ?_ _)); exact BK362.out) hb); have n_y5 := Aside0.mk (below_step (by repeat (first | (with_reducible first | exact HB.out | apply below_alloc | apply pw_below_drewN | apply below_drew1 | refine below_set ?_ GE_y11.out | refine below_set ?_ GE333.out | refine below_set ?_ GE362.out) | exact HB.out)) hb); clear BK304; clear BK333; clear BK362; clear HB; have BK304 := n_y1; have BK333 := n_y2; have BK362 := n_y4; have HB := n_y5; clear n_y1 n_y2 n_y4 n_y5; (try clear hb); (try clear hb2); (try clear hk); (try clear hi)))
  go_ret
  exact ⟨by first | rfl | (simp [errW_none, errW_some] <;> rfl) | (simp [*, errW_none, errW_some] <;> rfl), by repeat (first | (with_reducible first | exact HB.out | apply below_alloc | apply pw_below_drewN | apply below_drew1 | refine below_set ?_ GE_y11.out | refine below_set ?_ GE333.out | refine below_set ?_ GE362.out) | exact HB.out)⟩) : p := h
set_option maxHeartbeats 64000000 in
set_option maxRecDepth 100000 in
theorem laws_FnExactThroughOf.calls (k : Nat) (a0_0 : Int) (a0_1 : Int) (a0_2 : Int) (a0_3 : Int) (a0_4 : Int) (a0_5 : Int) (a0_6 : Int) (a0_7 : Int) (a0_8 : Int) (a0_9 : Int) (a0_10 : Int) (a0_11 : Int) (a0_12 : Int) (a0_13 : Int) (a0_14 : Int) (a0_15 : Int) (a0_16 : Int) (a0_17 : Int) (a0_18 : Int) (r : Bool) (w : World) (HGL0 : PGlob w) (h : laws_FnExactThroughOf.f k a0_0 a0_1 a0_2 a0_3 a0_4 a0_5 a0_6 a0_7 a0_8 a0_9 a0_10 a0_11 a0_12 a0_13 a0_14 a0_15 a0_16 a0_17 a0_18 = some r) (hr_ : r = true := by rfl) :
    Calls Try.prog 6 #[.agg #[.int .i64 a0_0, .int .i64 a0_1, .int .i64 a0_2, .int .i64 a0_3, .int .i64 a0_4, .int .i64 a0_5, .int .i64 a0_6, .int .i64 a0_7, .int .i64 a0_8, .int .i64 a0_9, .int .i64 a0_10, .int .i64 a0_11, .int .i64 a0_12, .int .i64 a0_13, .int .i64 a0_14, .int .i64 a0_15, .int .i64 a0_16, .int .i64 a0_17, .int .i64 a0_18]] w fun e w' => e = .returned (.bool r) ∧ Below w.heap.size w w' := by
  have HR_ := Aside0.mk hr_
  clear hr_
  have HGL := Aside0.mk HGL0
  clear HGL0
  have hu25 := Try.underlying25
  have hu28 := Try.underlying28
  have HB := Aside0.mk (Below.refl w.heap.size w)
  have H : ((laws_toInstr.f a0_0 a0_1 a0_2 a0_3 a0_4 a0_5 a0_6 a0_7 a0_8 a0_9 a0_10 a0_11 a0_12 a0_13 a0_14 a0_15 a0_16 a0_17 a0_18).bind fun bt305 => ((spec_ThroughOf.f k bt305.1 bt305.2.1 bt305.2.2.1 bt305.2.2.2.1 bt305.2.2.2.2.1 bt305.2.2.2.2.2.1 bt305.2.2.2.2.2.2.1 bt305.2.2.2.2.2.2.2.1 bt305.2.2.2.2.2.2.2.2.1 bt305.2.2.2.2.2.2.2.2.2.1 bt305.2.2.2.2.2.2.2.2.2.2.1 bt305.2.2.2.2.2.2.2.2.2.2.2.1 bt305.2.2.2.2.2.2.2.2.2.2.2.2.1 bt305.2.2.2.2.2.2.2.2.2.2.2.2.2.1 bt305.2.2.2.2.2.2.2.2.2.2.2.2.2.2.1 bt305.2.2.2.2.2.2.2.2.2.2.2.2.2.2.2.1 bt305.2.2.2.2.2.2.2.2.2.2.2.2.2.2.2.2.1 bt305.2.2.2.2.2.2.2.2.2.2.2.2.2.2.2.2.2.1 bt305.2.2.2.2.2.2.2.2.2.2.2.2.2.2.2.2.2.2).bind fun bt324 => ((laws_toInstr.f a0_0 a0_1 a0_2 a0_3 a0_4 a0_5 a0_6 a0_7 a0_8 a0_9 a0_10 a0_11 a0_12 a0_13 a0_14 a0_15 a0_16 a0_17 a0_18).bind fun bt334 => ((impl_ThroughOf.f k bt334.1 bt334.2.1 bt334.2.2.1 bt334.2.2.2.1 bt334.2.2.2.2.1 bt334.2.2.2.2.2.1 bt334.2.2.2.2.2.2.1 bt334.2.2.2.2.2.2.2.1 bt334.2.2.2.2.2.2.2.2.1 bt334.2.2.2.2.2.2.2.2.2.1 bt334.2.2.2.2.2.2.2.2.2.2.1 bt334.2.2.2.2.2.2.2.2.2.2.2.1 bt334.2.2.2.2.2.2.2.2.2.2.2.2.1 bt334.2.2.2.2.2.2.2.2.2.2.2.2.2.1 bt334.2.2.2.2.2.2.2.2.2.2.2.2.2.2.1 bt334.2.2.2.2.2.2.2.2.2.2.2.2.2.2.2.1 bt334.2.2.2.2.2.2.2.2.2.2.2.2.2.2.2.2.1 bt334.2.2.2.2.2.2.2.2.2.2.2.2.2.2.2.2.2.1 bt334.2.2.2.2.2.2.2.2.2.2.2.2.2.2.2.2.2.2).bind fun bt353 => ((laws_eqOperand.f bt353.1 bt353.2.1 bt353.2.2.1 bt353.2.2.2.1 bt353.2.2.2.2.1 bt353.2.2.2.2.2.1 bt353.2.2.2.2.2.2.1 bt324.1 bt324.2.1 bt324.2.2.1 bt324.2.2.2.1 bt324.2.2.2.2.1 bt324.2.2.2.2.2.1 bt324.2.2.2.2.2.2.1).bind fun t363 => (if t363 = true then (if (bt353.2.2.2.2.2.2.2.1 != bt324.2.2.2.2.2.2.2.1) = true then (some false) else (if bt353.2.2.2.2.2.2.2.2 = bt324.2.2.2.2.2.2.2.2 then (some true) else (some false))) else (some false))))))) = some r := h
  clear h
  replace H := Option.bind_eq_some_iff.mp H
  obtain ⟨⟨t305, t306, t307, t308, t309, t310, t311, t312, t313, t314, t315, t316, t317, t318, t319, t320, t321, t322, t323⟩, A20, H⟩ := H
  replace H : ((spec_ThroughOf.f k t305 t306 t307 t308 t309 t310 t311 t312 t313 t314 t315 t316 t317 t318 t319 t320 t321 t322 t323).bind fun bt324 => ((laws_toInstr.f a0_0 a0_1 a0_2 a0_3 a0_4 a0_5 a0_6 a0_7 a0_8 a0_9 a0_10 a0_11 a0_12 a0_13 a0_14 a0_15 a0_16 a0_17 a0_18).bind fun bt334 => ((impl_ThroughOf.f k bt334.1 bt334.2.1 bt334.2.2.1 bt334.2.2.2.1 bt334.2.2.2.2.1 bt334.2.2.2.2.2.1 bt334.2.2.2.2.2.2.1 bt334.2.2.2.2.2.2.2.1 bt334.2.2.2.2.2.2.2.2.1 bt334.2.2.2.2.2.2.2.2.2.1 bt334.2.2.2.2.2.2.2.2.2.2.1 bt334.2.2.2.2.2.2.2.2.2.2.2.1 bt334.2.2.2.2.2.2.2.2.2.2.2.2.1 bt334.2.2.2.2.2.2.2.2.2.2.2.2.2.1 bt334.2.2.2.2.2.2.2.2.2.2.2.2.2.2.1 bt334.2.2.2.2.2.2.2.2.2.2.2.2.2.2.2.1 bt334.2.2.2.2.2.2.2.2.2.2.2.2.2.2.2.2.1 bt334.2.2.2.2.2.2.2.2.2.2.2.2.2.2.2.2.2.1 bt334.2.2.2.2.2.2.2.2.2.2.2.2.2.2.2.2.2.2).bind fun bt353 => ((laws_eqOperand.f bt353.1 bt353.2.1 bt353.2.2.1 bt353.2.2.2.1 bt353.2.2.2.2.1 bt353.2.2.2.2.2.1 bt353.2.2.2.2.2.2.1 bt324.1 bt324.2.1 bt324.2.2.1 bt324.2.2.2.1 bt324.2.2.2.2.1 bt324.2.2.2.2.2.1 bt324.2.2.2.2.2.2.1).bind fun t363 => (if t363 = true then (if (bt353.2.2.2.2.2.2.2.1 != bt324.2.2.2.2.2.2.2.1) = true then (some false) else (if bt353.2.2.2.2.2.2.2.2 = bt324.2.2.2.2.2.2.2.2 then (some true) else (some false))) else (some false)))))) = some r := H
  have A2 := Aside0.mk A20
  clear A20
  replace H := Option.bind_eq_some_iff.mp H
  obtain ⟨⟨t324, t325, t326, t327, t328, t329, t330, t331, t332⟩, A30, H⟩ := H
  replace H : ((laws_toInstr.f a0_0 a0_1 a0_2 a0_3 a0_4 a0_5 a0_6 a0_7 a0_8 a0_9 a0_10 a0_11 a0_12 a0_13 a0_14 a0_15 a0_16 a0_17 a0_18).bind fun bt334 => ((impl_ThroughOf.f k bt334.1 bt334.2.1 bt334.2.2.1 bt334.2.2.2.1 bt334.2.2.2.2.1 bt334.2.2.2.2.2.1 bt334.2.2.2.2.2.2.1 bt334.2.2.2.2.2.2.2.1 bt334.2.2.2.2.2.2.2.2.1 bt334.2.2.2.2.2.2.2.2.2.1 bt334.2.2.2.2.2.2.2.2.2.2.1 bt334.2.2.2.2.2.2.2.2.2.2.2.1 bt334.2.2.2.2.2.2.2.2.2.2.2.2.1 bt334.2.2.2.2.2.2.2.2.2.2.2.2.2.1 bt334.2.2.2.2.2.2.2.2.2.2.2.2.2.2.1 bt334.2.2.2.2.2.2.2.2.2.2.2.2.2.2.2.1 bt334.2.2.2.2.2.2.2.2.2.2.2.2.2.2.2.2.1 bt334.2.2.2.2.2.2.2.2.2.2.2.2.2.2.2.2.2.1 bt334.2.2.2.2.2.2.2.2.2.2.2.2.2.2.2.2.2.2).bind fun bt353 => ((laws_eqOperand.f bt353.1 bt353.2.1 bt353.2.2.1 bt353.2.2.2.1 bt353.2.2.2.2.1 bt353.2.2.2.2.2.1 bt353.2.2.2.2.2.2.1 t324 t325 t326 t327 t328 t329 t330).bind fun t363 => (if t363 = true then (if (bt353.2.2.2.2.2.2.2.1 != t331) = true then (some false) else (if bt353.2.2.2.2.2.2.2.2 = t332 then (some true) else (some false))) else (some false))))) = some r := H
  have A3 := Aside0.mk A30
  clear A30
  replace H := Option.bind_eq_some_iff.mp H
  obtain ⟨⟨t334, t335, t336, t337, t338, t339, t340, t341, t342, t343, t344, t345, t346, t347, t348, t349, t350, t351, t352⟩, A40, H⟩ := H
  replace H : ((impl_ThroughOf.f k t334 t335 t336 t337 t338 t339 t340 t341 t342 t343 t344 t345 t346 t347 t348 t349 t350 t351 t352).bind fun bt353 => ((laws_eqOperand.f bt353.1 bt353.2.1 bt353.2.2.1 bt353.2.2.2.1 bt353.2.2.2.2.1 bt353.2.2.2.2.2.1 bt353.2.2.2.2.2.2.1 t324 t325 t326 t327 t328 t329 t330).bind fun t363 => (if t363 = true then (if (bt353.2.2.2.2.2.2.2.1 != t331) = true then (some false) else (if bt353.2.2.2.2.2.2.2.2 = t332 then (some true) else (some false))) else (some false)))) = some r := H
  have A4 := Aside0.mk A40
  clear A40
  replace H := Option.bind_eq_some_iff.mp H
  obtain ⟨⟨t353, t354, t355, t356, t357, t358, t359, t360, t361⟩, A50, H⟩ := H
  replace H : ((laws_eqOperand.f t353 t354 t355 t356 t357 t358 t359 t324 t325 t326 t327 t328 t329 t330).bind fun t363 => (if t363 = true then (if (t360 != t331) = true then (some false) else (if t361 = t332 then (some true) else (some false))) else (some false))) = some r := H
  have A5 := Aside0.mk A50
  clear A50
  replace H := Option.bind_eq_some_iff.mp H
  obtain ⟨t363, A60, H⟩ := H
  replace H : (if t363 = true then (if (t360 != t331) = true then (some false) else (if t361 = t332 then (some true) else (some false))) else (some false)) = some r := H
  have A6 := Aside0.mk A60
  clear A60
  by_cases c7 : t363 = true
  · subst c7
    have H1 : (if (t360 != t331) = true then (some false) else (if t361 = t332 then (some true) else (some false))) = some r := by rw [if_pos rfl] at H; exact H
    clear H
    have H := H1
    clear H1
    by_cases c8 : (t360 != t331) = true
    · rw [if_pos c8] at H
      have c8b0 : (t360 != t331) = true := c8
      (try (have c8b1 : decide (t360 = t331) = false := by simpa using c8))
      (try (have c8b2 : (t360 == t331) = false := by simpa using c8))
      (try (have c8b3 : ¬ (t360 = t331) := by simpa using c8))
      clear c8
      first | exact absurd ((Option.some.inj H).trans HR_.out) (by decide) | exact laws_FnExactThroughOf.e0
    · rw [if_neg c8] at H
      have c8b0 : (t360 != t331) = false := by simpa using c8
      (try (have c8b1 : decide (t360 = t331) = true := by simpa using c8))
      (try (have c8b2 : (t360 == t331) = true := by simpa using c8))
      clear c8
      by_cases c25 : t361 = t332
      · rw [if_pos c25] at H
        have c25b0 : (t361 == t332) = true := beq_iff_eq.mpr c25
        have c25b1 : (t361 != t332) = false := bne_eq_false_iff_eq.mpr c25
        clear c25
        first | exact absurd ((Option.some.inj H).trans HR_.out) (by decide) | exact laws_FnExactThroughOf.e0
      · rw [if_neg c25] at H
        have c25b0 : (t361 == t332) = false := beq_eq_false_iff_ne.mpr c25
        have c25b1 : (t361 != t332) = true := bne_iff_ne.mpr c25
        first | exact absurd ((Option.some.inj H).trans HR_.out) (by decide) | exact laws_FnExactThroughOf.e0
  · replace c7 := Bool.eq_false_iff.mpr c7
    subst c7
    have H1 : (some false) = some r := by rw [if_neg (show ¬ (false = true) by decide)] at H; exact H
    clear H
    have H := H1
    clear H1
    first
      | exact absurd ((Option.some.inj H).trans HR_.out) (by decide)
      | (obtain rfl := Option.some.inj H
         go_enter Try.func6, Try.ntmps6
         go_wp2_with (first | ((with_reducible refine gate_dst (N := 10) rfl ?_); (try refine gate_guard (by rfl) ?_); refine ldw 25 (.tmp 1) rfl rfl rfl by71 Try.underlying25 rfl by4 ?_) | ((with_reducible refine gate_dst (N := 17) rfl ?_); (try refine gate_guard (by rfl) ?_); refine ldw 25 (.tmp 1) rfl rfl rfl by71 Try.underlying25 rfl by4 ?_) | ((with_reducible refine gate_store (p := .tmp 3) (x := .tmp 13) rfl ?_); refine stw (w := w) 28 (.tmp 3) (.tmp 13) rfl rfl rfl rfl by109 by4 (by rfl) (by simp [Value.oneCell']) GE333.out by0 ?_; intro wv3 n0_ n1_ hk_; have m304_ := Aside0.mk (hk_ _ _ NB304_333.out by71); have n2_ := Aside0.mk n0_; have n3_ := Aside0.mk n1_; clear HB BK333 BK304 hk_ n0_ n1_; have HB := n2_; have BK333 := n3_; have BK304 := m304_; clear n2_ n3_ m304_) | ((with_reducible refine gate_dst (N := 24) rfl ?_); (try refine gate_guard (by rfl) ?_); refine ldw 28 (.tmp 3) rfl rfl rfl by109 Try.underlying28 rfl by4 ?_) | ((with_reducible refine gate_store (p := .tmp 6) (x := .tmp 20) rfl ?_); refine stw (w := w) 28 (.tmp 6) (.tmp 20) rfl rfl rfl rfl (by (with_reducible repeat (first | refine blk_drewN ?_ _ | refine blk_drew ?_ | refine blk_alloc ?_ _)); exact BK362.out) by4 (by rfl) (by simp [Value.oneCell']) GE362.out by0 ?_; intro wv6 n0_ n1_ hk_; have m304_ := Aside0.mk (hk_ _ _ NB304_362.out by71); have m333_ := Aside0.mk (hk_ _ _ NB333_362.out by109); have n2_ := Aside0.mk n0_; have n3_ := Aside0.mk n1_; clear HB BK362 BK304 BK333 hk_ n0_ n1_; have HB := n2_; have BK362 := n3_; have BK304 := m304_; have BK333 := m333_; clear n2_ n3_ m304_ m333_) | ((with_reducible refine gate_dst (N := 23) rfl ?_); (try refine gate_guard (by rfl) ?_); refine ldw 28 (.tmp 6) rfl rfl rfl (by (with_reducible repeat (first | refine blk_drewN ?_ _ | refine blk_drew ?_ | refine blk_alloc ?_ _)); exact BK362.out) Try.underlying28 rfl by4 ?_) | ((with_reducible refine gate_dst (N := 1) rfl ?_); refine bx25 (w := w) (N := 1) rfl rfl rfl rfl by0 ?_; intro gb304 w58 n0_ BK304 GW304 GE304; clear HB; have HB := n0_; clear n0_; obtain ⟨hcz59_0, hcz59_1, hcz59_2, hcz59_3, hcz59_4, hcz59_5, hcz59_6, hcz59_7, hcz59_8, hcz59_9, hcz59_10, hcz59_11, hcz59_12, hcz59_13, hcz59_14, hcz59_15, hcz59_16, hcz59_17, hcz59_18⟩ := cs19 BK304.out) | ((with_reducible refine gate_callee (f := 16) rfl ?_); refine goesL_ (some 11) rfl rfl Try.func16 by4 rfl _ rfl by1 (Calls.mono (laws_toInstr.calls _ _ _ _ _ _ _ _ _ _ _ _ _ _ _ _ _ _ _ _ _ _ _ _ _ _ _ _ _ _ _ _ _ _ _ _ _ _ _ A2.out) ?_); rintro e w60 ⟨rfl, hb⟩; refine ⟨_, rfl, ?_⟩; have n0_ := Aside0.mk (blk_below by71 hb); have n1_ := Aside0.mk (below_step by79 hb); clear BK304; clear HB; have BK304 := n0_; have HB := n1_; clear n0_ n1_; (try clear hb); (try clear hb2); (try clear hk); (try clear hi)) | ((with_reducible refine gate_callee (f := 22) rfl ?_); refine goesL_ (some 12) rfl rfl Try.func22 by4 rfl _ rfl by1 (Calls.mono (spec_ThroughOf.calls _ _ _ _ _ _ _ _ _ _ _ _ _ _ _ _ _ _ _ _ _ _ _ _ _ _ _ _ _ _ A3.out) ?_); rintro e w61 ⟨rfl, hb⟩; refine ⟨_, rfl, ?_⟩; have n0_ := Aside0.mk (blk_below by71 hb); have n1_ := Aside0.mk (below_step by79 hb); clear BK304; clear HB; have BK304 := n0_; have HB := n1_; clear n0_ n1_; (try clear hb); (try clear hb2); (try clear hk); (try clear hi)) | ((with_reducible refine gate_dst (N := 3) rfl ?_); refine box_event ?hg (N := 3) ?hd (cs := #[.int .i64 0, .int .i64 0, .int .i64 0, .int .i64 0, .int .i64 0, .int .i64 0, .int .i64 0]) (t := 28) ?hr ?_; (case hd => rfl); (case hg => rfl); (case hr => first | (go_simp; done) | (go_simp; rfl)); intro gb333 hg w62 hbox hb; have n0_ := Aside0.mk (blk_below by71 hb); have n1_ := Aside0.mk (below_step by79 hb); have n2_ := Aside0.mk (hbox); have n3_ := Aside0.mk ((by92 : w.heap.size ≤ gb333)); have n4_ := Aside0.mk ((by92 : w.heap.size ≤ gb333)); have n5_ := Aside0.mk ((by102 : gb304 ≠ gb333)); have n6_ := Aside0.mk ((by103 : gb333 ≠ gb304)); clear BK304; clear HB; have BK304 := n0_; have HB := n1_; have BK333 := n2_; have GW333 := n3_; have GE333 := n4_; have NB304_333 := n5_; have NB333_304 := n6_; clear n0_ n1_ n2_ n3_ n4_ n5_ n6_; clear hb hbox hg; have hnb63 := NB333_304.out; have hnc63 := NB304_333.out; obtain ⟨hcz64_0, hcz64_1, hcz64_2, hcz64_3, hcz64_4, hcz64_5, hcz64_6⟩ := cs7 BK333.out; have hfz64_0 := blk_frozen BK333.out 0; have hfz64_1 := blk_frozen BK333.out 1; have hfz64_2 := blk_frozen BK333.out 2; have hfz64_3 := blk_frozen BK333.out 3; have hfz64_4 := blk_frozen BK333.out 4; have hfz64_5 := blk_frozen BK333.out 5; have hfz64_6 := blk_frozen BK333.out 6; obtain ⟨hcz65_0, hcz65_1, hcz65_2, hcz65_3, hcz65_4, hcz65_5, hcz65_6, hcz65_7, hcz65_8, hcz65_9, hcz65_10, hcz65_11, hcz65_12, hcz65_13, hcz65_14, hcz65_15, hcz65_16, hcz65_17, hcz65_18⟩ := cs19 BK304.out) | ((with_reducible refine gate_callee (f := 16) rfl ?_); refine goesL_ (some 18) rfl rfl Try.func16 by4 rfl _ rfl by1 (Calls.mono (laws_toInstr.calls _ _ _ _ _ _ _ _ _ _ _ _ _ _ _ _ _ _ _ _ _ _ _ _ _ _ _ _ _ _ _ _ _ _ _ _ _ _ _ A4.out) ?_); rintro e w66 ⟨rfl, hb⟩; refine ⟨_, rfl, ?_⟩; have n0_ := Aside0.mk (blk_below by71 hb); have n1_ := Aside0.mk (blk_below by109 hb); have n2_ := Aside0.mk (below_step by74 hb); clear BK304; clear BK333; clear HB; have BK304 := n0_; have BK333 := n1_; have HB := n2_; clear n0_ n1_ n2_; (try clear hb); (try clear hb2); (try clear hk); (try clear hi)) | ((with_reducible refine gate_callee (f := 23) rfl ?_); refine goesL_ (some 19) rfl rfl Try.func23 by4 rfl #[.agg #[.int .i64 t334, .int .i64 t335, .int .i64 t336, .int .i64 t337, .int .i64 t338, .int .i64 t339, .int .i64 t340, .int .i64 t341, .int .i64 t342, .int .i64 t343, .int .i64 t344, .int .i64 t345, .int .i64 t346, .int .i64 t347, .int .i64 t348, .int .i64 t349, .int .i64 t350, .int .i64 t351, .int .i64 t352]] rfl by1 ?_; (with_reducible refine (impl_ThroughOf.calls (HGL0 := by23) k t334 t335 t336 t337 t338 t339 t340 t341 t342 t343 t344 t345 t346 t347 t348 t349 t350 t351 t352 t353 t354 t355 t356 t357 t358 t359 t360 t361 _ A5.out).mono ?_); rintro e w67 ⟨rfl, hb⟩; refine ⟨_, rfl, ?_⟩; have n0_ := Aside0.mk (blk_below by71 hb); have n1_ := Aside0.mk (blk_below by109 hb); have n2_ := Aside0.mk (below_step by74 hb); clear BK304; clear BK333; clear HB; have BK304 := n0_; have BK333 := n1_; have HB := n2_; clear n0_ n1_ n2_; (try clear hb); (try clear hb2); (try clear hk); (try clear hi)) | ((with_reducible refine gate_dst (N := 6) rfl ?_); refine box_event ?hg (N := 6) ?hd (cs := #[.int .i64 0, .int .i64 0, .int .i64 0, .int .i64 0, .int .i64 0, .int .i64 0, .int .i64 0]) (t := 28) ?hr ?_; (case hd => rfl); (case hg => rfl); (case hr => first | (go_simp; done) | (go_simp; rfl)); intro gb362 hg w68 hbox hb; have n0_ := Aside0.mk (blk_below by71 hb); have n1_ := Aside0.mk (blk_below by109 hb); have n2_ := Aside0.mk (below_step by74 hb); have n3_ := Aside0.mk (hbox); have n4_ := Aside0.mk ((by89 : w.heap.size ≤ gb362)); have n5_ := Aside0.mk ((by89 : w.heap.size ≤ gb362)); have n6_ := Aside0.mk ((by102 : gb304 ≠ gb362)); have n7_ := Aside0.mk ((by103 : gb362 ≠ gb304)); have n8_ := Aside0.mk ((by rw [hg]; exact Nat.ne_of_lt (blk_lt by109) : gb333 ≠ gb362)); have n9_ := Aside0.mk ((by rw [hg]; exact Nat.ne_of_gt (blk_lt by109) : gb362 ≠ gb333)); clear BK304; clear BK333; clear HB; have BK304 := n0_; have BK333 := n1_; have HB := n2_; have BK362 := n3_; have GW362 := n4_; have GE362 := n5_; have NB304_362 := n6_; have NB362_304 := n7_; have NB333_362 := n8_; have NB362_333 := n9_; clear n0_ n1_ n2_ n3_ n4_ n5_ n6_ n7_ n8_ n9_; clear hb hbox hg; have hnb69 := NB362_304.out; have hnc69 := NB304_362.out; have hnb70 := NB362_333.out; have hnc70 := NB333_362.out; obtain ⟨hcz71_0, hcz71_1, hcz71_2, hcz71_3, hcz71_4, hcz71_5, hcz71_6⟩ := cs7 BK362.out; have hfz71_0 := blk_frozen BK362.out 0; have hfz71_1 := blk_frozen BK362.out 1; have hfz71_2 := blk_frozen BK362.out 2; have hfz71_3 := blk_frozen BK362.out 3; have hfz71_4 := blk_frozen BK362.out 4; have hfz71_5 := blk_frozen BK362.out 5; have hfz71_6 := blk_frozen BK362.out 6; obtain ⟨hcz72_0, hcz72_1, hcz72_2, hcz72_3, hcz72_4, hcz72_5, hcz72_6⟩ := cs7 BK333.out; have hfz72_0 := blk_frozen BK333.out 0; have hfz72_1 := blk_frozen BK333.out 1; have hfz72_2 := blk_frozen BK333.out 2; have hfz72_3 := blk_frozen BK333.out 3; have hfz72_4 := blk_frozen BK333.out 4; have hfz72_5 := blk_frozen BK333.out 5; have hfz72_6 := blk_frozen BK333.out 6) | ((with_reducible refine gate_callee (f := 24) rfl ?_); refine goesL_ (some 25) rfl rfl Try.func24 by4 rfl #[.agg #[.int .i64 t353, .int .i64 t354, .int .i64 t355, .int .i64 t356, .int .i64 t357, .int .i64 t358, .int .i64 t359], .agg #[.int .i64 t324, .int .i64 t325, .int .i64 t326, .int .i64 t327, .int .i64 t328, .int .i64 t329, .int .i64 t330]] rfl by1 ?_; (with_reducible refine (laws_eqOperand.calls t353 t354 t355 t356 t357 t358 t359 t324 t325 t326 t327 t328 t329 t330 false _ A6.out).mono ?_); rintro e w73 ⟨rfl, hb⟩; refine ⟨_, rfl, ?_⟩; have n0_ := Aside0.mk (blk_below by71 hb); have n1_ := Aside0.mk (blk_below by109 hb); have n2_ := Aside0.mk (blk_below (by (with_reducible repeat (first | refine blk_drewN ?_ _ | refine blk_drew ?_ | refine blk_alloc ?_ _)); exact BK362.out) hb); have n3_ := Aside0.mk (below_step (by repeat (first | (with_reducible first | exact HB.out | apply below_alloc | apply pw_below_drewN | apply below_drew1 | refine below_set ?_ GE304.out | refine below_set ?_ GE333.out | refine below_set ?_ GE362.out) | exact HB.out)) hb); clear BK304; clear BK333; clear BK362; clear HB; have BK304 := n0_; have BK333 := n1_; have BK362 := n2_; have HB := n3_; clear n0_ n1_ n2_ n3_; (try clear hb); (try clear hb2); (try clear hk); (try clear hi)))
         go_ret
         exact ⟨by first | rfl | (simp [errW_none, errW_some] <;> rfl) | (simp [*, errW_none, errW_some] <;> rfl), by repeat (first | (with_reducible first | exact HB.out | apply below_alloc | apply pw_below_drewN | apply below_drew1 | refine below_set ?_ GE304.out | refine below_set ?_ GE333.out | refine below_set ?_ GE362.out) | exact HB.out)⟩)def ok23 (x : S23) : Prop := ((Lit.int .i64 x.f0).wf = true) ∧ ((Lit.int .i64 x.f1).wf = true) ∧ ((Lit.int .i64 x.f2).wf = true) ∧ ((Lit.int .i64 x.f3).wf = true) ∧ ((Lit.int .i64 x.f4).wf = true) ∧ ((Lit.int .i64 x.f5).wf = true) ∧ ((Lit.int .i64 x.f6).wf = true)
def ok25 (x : S25) : Prop := ((Lit.int .i64 x.f0).wf = true) ∧ ((Lit.int .i64 x.f1).wf = true) ∧ ((Lit.int .i64 x.f2).wf = true) ∧ ((Lit.int .i64 x.f3).wf = true) ∧ (ok23 x.f4) ∧ (ok23 x.f5) ∧ ((Lit.int .i64 x.f6).wf = true)
/-- THE ONE PURE STATEMENT of laws_FnExactThroughOf: yours. -/
def laws_FnExactThroughOf.Pure : Prop := ∀ (x0 : S25), ok25 x0 → ∃ k, laws_FnExactThroughOf.f k x0.f0 x0.f1 x0.f2 x0.f3 x0.f4.f0 x0.f4.f1 x0.f4.f2 x0.f4.f3 x0.f4.f4 x0.f4.f5 x0.f4.f6 x0.f5.f0 x0.f5.f1 x0.f5.f2 x0.f5.f3 x0.f5.f4 x0.f5.f5 x0.f5.f6 x0.f6 = some true
theorem laws_FnExactThroughOf.walk (P : laws_FnExactThroughOf.Pure) (x0 : S25) (w : World) (HGL0 : PGlob w) (okx0 : ok25 x0) :
    Calls Try.prog 6 #[.agg #[.int .i64 x0.f0, .int .i64 x0.f1, .int .i64 x0.f2, .int .i64 x0.f3, .int .i64 x0.f4.f0, .int .i64 x0.f4.f1, .int .i64 x0.f4.f2, .int .i64 x0.f4.f3, .int .i64 x0.f4.f4, .int .i64 x0.f4.f5, .int .i64 x0.f4.f6, .int .i64 x0.f5.f0, .int .i64 x0.f5.f1, .int .i64 x0.f5.f2, .int .i64 x0.f5.f3, .int .i64 x0.f5.f4, .int .i64 x0.f5.f5, .int .i64 x0.f5.f6, .int .i64 x0.f6]] w fun e w' => e = .returned (.bool true) ∧ Below w.heap.size w w' := by
  obtain ⟨k, h⟩ := P x0 okx0
  refine (laws_FnExactThroughOf.calls (HGL0 := HGL0) k x0.f0 x0.f1 x0.f2 x0.f3 x0.f4.f0 x0.f4.f1 x0.f4.f2 x0.f4.f3 x0.f4.f4 x0.f4.f5 x0.f4.f6 x0.f5.f0 x0.f5.f1 x0.f5.f2 x0.f5.f3 x0.f5.f4 x0.f5.f5 x0.f5.f6 x0.f6 true w h).mono ?_
  rintro e w' ⟨rfl, hd⟩
  exact ⟨rfl, hd⟩
end Go.Proofs.Ytonogadabgilfaa.PFnExactThroughOf
