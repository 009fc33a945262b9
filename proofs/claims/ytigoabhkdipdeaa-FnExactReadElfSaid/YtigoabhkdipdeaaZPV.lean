/- A part of the plain reading of Go's code: what a function's code comes to, by a plain function. No condition. -/
import Derived.Test.YtigoabhkdipdeaaZBJ
import Derived.Laws.BitsLemmas
import Derived.Laws.Strings
import Derived.WideShapes
namespace Go.Proofs.Ytigoabhkdipdeaa.AM
open Go Go.RowKit

/-! Plain functions have fuel: what they come to from some fuel on. -/
def Ev {α : Type} (f : Nat → Option α) (v : α) : Prop := ∃ N, ∀ n, N ≤ n → f n = some v
theorem Ev.now {α : Type} (v : α) : Ev (fun _ => some v) v := ⟨0, fun _ _ => rfl⟩
theorem Ev.all {α : Type} {f : Nat → Option α} {v : α} (h : ∀ n, f n = some v) : Ev f v := ⟨0, fun n _ => h n⟩
theorem Ev.bind {α β : Type} {f : Nat → Option α} {g : Nat → α → Option β} {a : α} {v : β} (h : Ev f a) (k : Ev (fun n => g n a) v) : Ev (fun n => (f n).bind (g n)) v := by
  obtain ⟨N, hN⟩ := h
  obtain ⟨M, hM⟩ := k
  exact ⟨N + M, fun n hn => by show (f n).bind (g n) = _; rw [hN n (by omega)]; exact hM n (by omega)⟩
theorem Ev.congr {α : Type} {f g : Nat → Option α} {v : α} (h : ∀ n, f n = g n) (k : Ev g v) : Ev f v := by
  obtain ⟨N, hN⟩ := k
  exact ⟨N, fun n hn => (h n).trans (hN n hn)⟩
theorem Ev.eq {α : Type} {f : Nat → Option α} {v v' : α} (h : Ev f v) (e : v = v') : Ev f v' := e ▸ h
/-- A loop's head: one round more. -/
theorem Ev.step {α : Type} {f g : Nat → Option α} {v : α} (h : ∀ n, f (n + 1) = g n) (k : Ev g v) : Ev f v := by
  obtain ⟨N, hN⟩ := k
  refine ⟨N + 1, fun n hn => ?_⟩
  obtain ⟨m, rfl⟩ : ∃ m, n = m + 1 := ⟨n - 1, by omega⟩
  rw [h]
  exact hN m (by omega)
theorem Ev.t {α : Type} {b : Bool} {f g : Nat → Option α} {v : α} (hb : b = true) (h : Ev f v) : Ev (fun n => bif b then f n else g n) v := by
  subst hb; exact h
theorem Ev.f {α : Type} {b : Bool} {f g : Nat → Option α} {v : α} (hb : b = false) (h : Ev g v) : Ev (fun n => bif b then f n else g n) v := by
  subst hb; exact h
theorem Ev.dt {α : Type} {c : Prop} [Decidable c] {f g : Nat → Option α} {v : α} (hc : c) (h : Ev f v) : Ev (fun n => bif decide c then f n else g n) v := Ev.t (decide_eq_true hc) h
theorem Ev.df {α : Type} {c : Prop} [Decidable c] {f g : Nat → Option α} {v : α} (hc : ¬ c) (h : Ev g v) : Ev (fun n => bif decide c then f n else g n) v := Ev.f (decide_eq_false hc) h
theorem Ev.cases {α : Type} {b : Bool} {f g : Nat → Option α} {v : α} (h : b = true → Ev f v) (k : b = false → Ev g v) : Ev (fun n => bif b then f n else g n) v := by
  cases b
  · exact k rfl
  · exact h rfl
theorem Ev.dcases {α : Type} {c : Prop} [Decidable c] {f g : Nat → Option α} {v : α} (h : c → Ev f v) (k : ¬ c → Ev g v) : Ev (fun n => bif decide c then f n else g n) v := by
  by_cases hc : c
  · exact Ev.dt hc (h hc)
  · exact Ev.df hc (k hc)
theorem Ev.ite {α : Type} {b : Bool} {f g : Nat → Option α} {v w : α} (h : b = true → Ev f v) (k : b = false → Ev g w) : Ev (fun n => bif b then f n else g n) (bif b then v else w) := by
  cases b
  · exact k rfl
  · exact h rfl
theorem Ev.at {α : Type} {f : Nat → Option α} {v : α} (h : Ev f v) : ∃ n, f n = some v := by
  obtain ⟨N, hN⟩ := h
  exact ⟨N, hN N (Nat.le_refl _)⟩
theorem Ev.inj {α : Type} {f : Nat → Option α} {v w : α} (h : Ev f v) (k : Ev f w) : v = w := by
  obtain ⟨N, hN⟩ := h
  obtain ⟨M, hM⟩ := k
  have := (hN (N + M) (by omega)).symm.trans (hM (N + M) (by omega))
  exact Option.some.inj this
/-- Two that come to the same. -/
def Same {α : Type} (f g : Nat → Option α) : Prop := ∃ v, Ev f v ∧ Ev g v

/-! ### whole numbers -/
theorem wI {n : Int} (h0 : -9223372036854775808 ≤ n) (h1 : n ≤ 9223372036854775807) : IntKind.i64.wrap n = n := by
  rw [IntKind.wrap_i64]; omega
theorem wI_def (n : Int) : IntKind.i64.wrap n = (n + 9223372036854775808) % 18446744073709551616 - 9223372036854775808 := by
  rw [IntKind.wrap_i64]
theorem wU_def (n : Int) : IntKind.u64.wrap n = n % 18446744073709551616 := by simp [IntKind.wrap, IntKind.bits, IntKind.signed]
theorem wU8_def (n : Int) : IntKind.u8.wrap n = n % 256 := by simp [IntKind.wrap, IntKind.bits, IntKind.signed]
theorem wI_U (n : Int) : IntKind.i64.wrap (IntKind.u64.wrap n) = IntKind.i64.wrap n := by rw [wU_def, wI_def, wI_def]; omega
theorem wU_I (n : Int) : IntKind.u64.wrap (IntKind.i64.wrap n) = IntKind.u64.wrap n := by rw [wU_def, wU_def, wI_def]; omega
def R64 (n : Int) : Prop := -9223372036854775808 ≤ n ∧ n ≤ 9223372036854775807
theorem wf64 {a : Int} (h : (Lit.int .i64 a).wf = true) : -9223372036854775808 ≤ a ∧ a ≤ 9223372036854775807 := by
  simp only [Lit.wf, IntKind.min, IntKind.max, IntKind.signed, IntKind.bits, Bool.and_eq_true, decide_eq_true_eq, if_true] at h
  omega
theorem wI_R (n : Int) : R64 (IntKind.i64.wrap n) := by rw [wI_def]; unfold R64; omega

/-! ### rows -/
theorem rd_lt {α : Type} {d : α} {l : List α} {i : Nat} (h : i < l.length) : rd d l i = l[i] := by
  unfold rd; rw [List.getD_eq_getElem?_getD, List.getElem?_eq_getElem h]; rfl
theorem rd_ge {α : Type} {d : α} {l : List α} {i : Nat} (h : l.length ≤ i) : rd d l i = d := by
  unfold rd; rw [List.getD_eq_getElem?_getD, List.getElem?_eq_none h]; rfl
theorem rd_mem {α : Type} {d : α} {l : List α} {i : Nat} (h : i < l.length) : rd d l i ∈ l := by
  rw [rd_lt h]; exact List.getElem_mem h
theorem rd_ext {α : Type} {d : α} {l m : List α} (h : l.length = m.length) (k : ∀ i, i < l.length → rd d l i = rd d m i) : l = m := by
  refine List.ext_getElem h fun i h1 h2 => ?_
  have := k i h1
  rwa [rd_lt h1, rd_lt h2] at this
theorem rd_set {α : Type} {d : α} {l : List α} {i j : Nat} {x : α} (h : i < l.length) : rd d (l.set i x) j = if i = j then x else rd d l j := by
  unfold rd
  rw [List.getD_eq_getElem?_getD, List.getD_eq_getElem?_getD, List.getElem?_set]
  split
  · simp [h]
  · rfl
theorem rd_append_lt {α : Type} {d : α} {l m : List α} {i : Nat} (h : i < l.length) : rd d (l ++ m) i = rd d l i := by
  unfold rd; rw [List.getD_eq_getElem?_getD, List.getD_eq_getElem?_getD, List.getElem?_append_left h]
theorem rd_append_ge {α : Type} {d : α} {l m : List α} {i : Nat} (h : l.length ≤ i) : rd d (l ++ m) i = rd d m (i - l.length) := by
  unfold rd; rw [List.getD_eq_getElem?_getD, List.getD_eq_getElem?_getD, List.getElem?_append_right h]
/-- A loop that copies a row place by place. -/
theorem set_prefix {α : Type} {d : α} {l b : List α} {i : Nat} (hi : i < l.length) (hb : b.length = l.length) (h : ∀ j, j < i → rd d b j = rd d l j) : ∀ j, j < i + 1 → rd d (b.set i (rd d l i)) j = rd d l j := by
  intro j hj
  rw [rd_set (by omega)]
  split
  · rename_i e; rw [e]
  · exact h j (by omega)
theorem toList_inj {a b : ByteArray} (h : a.toList = b.toList) : a = b := by
  rw [ByteArray.toList_eq, ByteArray.toList_eq] at h
  exact Go.WideShapes.bytes_inj h
end Go.Proofs.Ytigoabhkdipdeaa.AM
