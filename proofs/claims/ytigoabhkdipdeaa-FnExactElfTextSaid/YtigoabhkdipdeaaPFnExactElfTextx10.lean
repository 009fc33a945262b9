/- Laid by a program of this session (patch_print.py) out of the translation: plain functions and what the calls do. No condition. -/
import Derived.Test.YtigoabhkdipdeaaPFnExactElfTextx0
import Derived.Test.YtigoabhkdipdeaaPFnExactElfTextx9
import Derived.Shelf.Strings.Repeat
namespace Go.Proofs.Ytigoabhkdipdeaa.PFnExactElfText
open Go.RowKit Go.Proofs.YtigoabhkdipdeaaW.PrintWords Go.Proofs.YtigoabhkdipdeaaW.PrintLast Go.Proofs.YtigoabhkdipdeaaW.PrintMore
attribute [local go_sem] max2_int min2_int max_two min_two max_three min_three max_four min_four   -- for this text's walks alone
set_option linter.unusedVariables false
set_option linter.unusedSimpArgs false

/-! ### strings_Repeat: function 196 -/
-- @import Derived.Shelf.Strings.Repeat
open Go.Shelf in
def rep_lays105_ren : Go.Shelf.Ren := ⟨fun | 105 => 196 | 212 => 242 | 99 => 243 | 165 => 244 | 166 => 245 | 170 => 246 | 169 => 247 | 263 => 261 | 264 => 253 | 206 => 262 | 240 => 263 | 241 => 264 | 276 => 268 | 277 => 269 | n => n, fun | 9 => 9 | 3 => 3 | 4 => 4 | 20 => 20 | 0 => 0 | 46 => 101 | 109 => 203 | 5 => 5 | 72 => 208 | 76 => 212 | 51 => 220 | 146 => 221 | 53 => 144 | 148 => 187 | 70 => 206 | 37 => 87 | 75 => 211 | 127 => 223 | 164 => 226 | 80 => 172 | n => n, fun | n => n⟩
open Go.Shelf in
theorem rep_lays105 : Go.Proofs.Lays.n105 Try.prog rep_lays105_ren := {
  mixed := by kernel_rfl
  f99 := Try.func243.trans (congrArg some by7)
  f105 := Try.func196.trans (congrArg some by7)
  f165 := Try.func244.trans (congrArg some by7)
  f166 := Try.func245.trans (congrArg some by7)
  f169 := Try.func247.trans (congrArg some by7)
  f170 := Try.func246.trans (congrArg some by7)
  f206 := Try.func262.trans (congrArg some by7)
  f212 := Try.func242.trans (congrArg some by7)
  f240 := Try.func263.trans (congrArg some by7)
  f241 := Try.func264.trans (congrArg some by7)
  f263 := Try.func261.trans (congrArg some by7)
  f264 := Try.func253.trans (congrArg some by7)
  f276 := Try.func268.trans (congrArg some by7)
  f277 := Try.func269.trans (congrArg some by7)
  t0 := Try.underlying0
  a0 := Try.isAgg0
  z0 := Try.sizeOf0
  v0 := Try.zeroValue0
  t3 := Try.underlying3
  a3 := Try.isAgg3
  z3 := Try.sizeOf3
  v3 := Try.zeroValue3
  t4 := Try.underlying4
  a4 := Try.isAgg4
  z4 := Try.sizeOf4
  v4 := Try.zeroValue4
  t5 := Try.underlying5
  a5 := Try.isAgg5
  z5 := Try.sizeOf5
  v5 := Try.zeroValue5
  t9 := Try.underlying9
  a9 := Try.isAgg9
  z9 := Try.sizeOf9
  v9 := Try.zeroValue9
  t20 := Try.underlying20
  a20 := Try.isAgg20
  z20 := Try.sizeOf20
  v20 := Try.zeroValue20
  t37 := Try.underlying87
  a37 := Try.isAgg87
  z37 := Try.sizeOf87
  v37 := Try.zeroValue87
  t46 := Try.underlying101
  a46 := Try.isAgg101
  z46 := Try.sizeOf101
  v46 := Try.zeroValue101
  t51 := Try.underlying220
  a51 := Try.isAgg220
  z51 := Try.sizeOf220
  v51 := Try.zeroValue220
  t53 := Try.underlying144
  a53 := Try.isAgg144
  z53 := Try.sizeOf144
  v53 := Try.zeroValue144
  t70 := Try.underlying206
  a70 := Try.isAgg206
  z70 := Try.sizeOf206
  v70 := Try.zeroValue206
  t72 := Try.underlying208
  a72 := Try.isAgg208
  z72 := Try.sizeOf208
  v72 := Try.zeroValue208
  t75 := Try.underlying211
  a75 := Try.isAgg211
  z75 := Try.sizeOf211
  v75 := Try.zeroValue211
  t76 := Try.underlying212
  a76 := Try.isAgg212
  z76 := Try.sizeOf212
  v76 := Try.zeroValue212
  t109 := Try.underlying203
  a109 := Try.isAgg203
  z109 := Try.sizeOf203
  v109 := Try.zeroValue203
  t127 := Try.underlying223
  a127 := Try.isAgg223
  z127 := Try.sizeOf223
  v127 := Try.zeroValue223
  t146 := Try.underlying221
  a146 := Try.isAgg221
  z146 := Try.sizeOf221
  v146 := Try.zeroValue221
  t148 := Try.underlying187
  a148 := Try.isAgg187
  z148 := Try.sizeOf187
  v148 := Try.zeroValue187
  t164 := Try.underlying226
  a164 := Try.isAgg226
  z164 := Try.sizeOf226
  v164 := Try.zeroValue226 }
open Go.Shelf in
theorem rep_extra105 : Builder.Extra Try.prog rep_lays105_ren := {
  sizeBuilder := by kernel_rfl
  liesBuilder := by kernel_rfl
  t5 := Try.underlying5
  a5 := Try.isAgg5
  z5 := Try.sizeOf5
  v5 := Try.zeroValue5
  infoByte := by kernel_rfl
  cellsByte := by kernel_rfl
  sizeByte := by kernel_rfl
  neB5 := by decide }
/-- strings.Repeat, where the count is not negative and the text is not too long for memory. -/
def strings_Repeat.f (x0 : ByteArray) (x1 : Int) : Option (ByteArray) := if 0 ≤ x1 ∧ x1 ≤ 9223372036854775807 ∧ x0.size * x1.toNat ≤ 140737488355328 then some ⟨(Lib.repeatL x0.data.toList x1.toNat).toArray⟩ else none
open Go.Shelf in
theorem strings_Repeat.calls (x0 : ByteArray) (x1 : Int) (r : ByteArray) (w : World) (h : strings_Repeat.f x0 x1 = some r) :
    Calls Try.prog 196 #[.string x0, .int .i64 x1] w fun e w' => e = .returned (.string r) ∧ Below w.heap.size w w' := by
  unfold strings_Repeat.f at h
  by_cases c : 0 ≤ x1 ∧ x1 ≤ 9223372036854775807 ∧ x0.size * x1.toNat ≤ 140737488355328
  · rw [if_pos c] at h
    obtain rfl := Option.some.inj h
    have := Any.strings_Repeat rep_lays105 rep_extra105 x0 x1.toNat w (by omega) c.2.2
    rw [show ((x1.toNat : Nat) : Int) = x1 by omega] at this
    exact this
  · rw [if_neg c] at h
    cases h

/-! ### impl_headText: function 123 -/
def impl_headText.f (k : Nat) (a0 : Int) (a1 : Int) : Option (ByteArray) := (strings_Repeat.f (⟨#[0]⟩ : ByteArray) 9).bind fun t217 => (if 7 + t217.size ≤ 9223372036854775807 then ((impl_little.f k 2 2).bind fun t218 => (if ((⟨#[127, 69, 76, 70, 2, 1, 1]⟩ : ByteArray) ++ t217).size + t218.size ≤ 9223372036854775807 then ((impl_little.f k 62 2).bind fun t219 => (if (((⟨#[127, 69, 76, 70, 2, 1, 1]⟩ : ByteArray) ++ t217) ++ t218).size + t219.size ≤ 9223372036854775807 then ((impl_little.f k 1 4).bind fun t220 => (if ((((⟨#[127, 69, 76, 70, 2, 1, 1]⟩ : ByteArray) ++ t217) ++ t218) ++ t219).size + t220.size ≤ 9223372036854775807 then ((impl_little.f k a0 8).bind fun t221 => (if (((((⟨#[127, 69, 76, 70, 2, 1, 1]⟩ : ByteArray) ++ t217) ++ t218) ++ t219) ++ t220).size + t221.size ≤ 9223372036854775807 then ((impl_little.f k 64 8).bind fun t222 => (if ((((((⟨#[127, 69, 76, 70, 2, 1, 1]⟩ : ByteArray) ++ t217) ++ t218) ++ t219) ++ t220) ++ t221).size + t222.size ≤ 9223372036854775807 then ((impl_little.f k 0 8).bind fun t223 => (if (((((((⟨#[127, 69, 76, 70, 2, 1, 1]⟩ : ByteArray) ++ t217) ++ t218) ++ t219) ++ t220) ++ t221) ++ t222).size + t223.size ≤ 9223372036854775807 then ((impl_little.f k 0 4).bind fun t224 => (if ((((((((⟨#[127, 69, 76, 70, 2, 1, 1]⟩ : ByteArray) ++ t217) ++ t218) ++ t219) ++ t220) ++ t221) ++ t222) ++ t223).size + t224.size ≤ 9223372036854775807 then ((impl_little.f k 64 2).bind fun t225 => (if (((((((((⟨#[127, 69, 76, 70, 2, 1, 1]⟩ : ByteArray) ++ t217) ++ t218) ++ t219) ++ t220) ++ t221) ++ t222) ++ t223) ++ t224).size + t225.size ≤ 9223372036854775807 then ((impl_little.f k 56 2).bind fun t226 => (if ((((((((((⟨#[127, 69, 76, 70, 2, 1, 1]⟩ : ByteArray) ++ t217) ++ t218) ++ t219) ++ t220) ++ t221) ++ t222) ++ t223) ++ t224) ++ t225).size + t226.size ≤ 9223372036854775807 then ((impl_little.f k a1 2).bind fun t227 => (if (((((((((((⟨#[127, 69, 76, 70, 2, 1, 1]⟩ : ByteArray) ++ t217) ++ t218) ++ t219) ++ t220) ++ t221) ++ t222) ++ t223) ++ t224) ++ t225) ++ t226).size + t227.size ≤ 9223372036854775807 then ((strings_Repeat.f (⟨#[0]⟩ : ByteArray) 6).bind fun t228 => (if ((((((((((((⟨#[127, 69, 76, 70, 2, 1, 1]⟩ : ByteArray) ++ t217) ++ t218) ++ t219) ++ t220) ++ t221) ++ t222) ++ t223) ++ t224) ++ t225) ++ t226) ++ t227).size + t228.size ≤ 9223372036854775807 then (some (((((((((((((⟨#[127, 69, 76, 70, 2, 1, 1]⟩ : ByteArray) ++ t217) ++ t218) ++ t219) ++ t220) ++ t221) ++ t222) ++ t223) ++ t224) ++ t225) ++ t226) ++ t227) ++ t228)) else (none))) else (none))) else (none))) else (none))) else (none))) else (none))) else (none))) else (none))) else (none))) else (none))) else (none))) else (none))
theorem impl_headText.mono : ∀ a0 a1 k, LeO (impl_headText.f k a0 a1) (impl_headText.f (k + 1) a0 a1) := by
  intro a0 a1 k
  unfold impl_headText.f
  repeat' first
      | (with_reducible exact impl_little.mono _ _ _)
      | (with_reducible exact LeO.refl _)
      | (with_reducible exact LeO.none _)
      | (with_reducible refine LeO.ite ?_ ?_)
      | (with_reducible refine LeO.bind ?_ (fun _ => ?_))
      | exact impl_little.mono _ _ _
      | exact LeO.none _
      | refine LeO.ite ?_ ?_
      | refine LeO.bind ?_ (fun _ => ?_)
set_option maxHeartbeats 8000000 in
set_option maxRecDepth 100000 in
theorem impl_headText.calls (k : Nat) (a0 : Int) (a1 : Int) (r : ByteArray) (w : World) (h : impl_headText.f k a0 a1 = some r) :
    Calls Try.prog 123 #[.int .i64 a0, .int .i64 a1] w fun e w' => e = .returned (.string r) ∧ Below w.heap.size w w' := by
  have HB := Aside0.mk (Below.refl w.heap.size w)
  have H : ((strings_Repeat.f (⟨#[0]⟩ : ByteArray) 9).bind fun t217 => (if 7 + t217.size ≤ 9223372036854775807 then ((impl_little.f k 2 2).bind fun t218 => (if ((⟨#[127, 69, 76, 70, 2, 1, 1]⟩ : ByteArray) ++ t217).size + t218.size ≤ 9223372036854775807 then ((impl_little.f k 62 2).bind fun t219 => (if (((⟨#[127, 69, 76, 70, 2, 1, 1]⟩ : ByteArray) ++ t217) ++ t218).size + t219.size ≤ 9223372036854775807 then ((impl_little.f k 1 4).bind fun t220 => (if ((((⟨#[127, 69, 76, 70, 2, 1, 1]⟩ : ByteArray) ++ t217) ++ t218) ++ t219).size + t220.size ≤ 9223372036854775807 then ((impl_little.f k a0 8).bind fun t221 => (if (((((⟨#[127, 69, 76, 70, 2, 1, 1]⟩ : ByteArray) ++ t217) ++ t218) ++ t219) ++ t220).size + t221.size ≤ 9223372036854775807 then ((impl_little.f k 64 8).bind fun t222 => (if ((((((⟨#[127, 69, 76, 70, 2, 1, 1]⟩ : ByteArray) ++ t217) ++ t218) ++ t219) ++ t220) ++ t221).size + t222.size ≤ 9223372036854775807 then ((impl_little.f k 0 8).bind fun t223 => (if (((((((⟨#[127, 69, 76, 70, 2, 1, 1]⟩ : ByteArray) ++ t217) ++ t218) ++ t219) ++ t220) ++ t221) ++ t222).size + t223.size ≤ 9223372036854775807 then ((impl_little.f k 0 4).bind fun t224 => (if ((((((((⟨#[127, 69, 76, 70, 2, 1, 1]⟩ : ByteArray) ++ t217) ++ t218) ++ t219) ++ t220) ++ t221) ++ t222) ++ t223).size + t224.size ≤ 9223372036854775807 then ((impl_little.f k 64 2).bind fun t225 => (if (((((((((⟨#[127, 69, 76, 70, 2, 1, 1]⟩ : ByteArray) ++ t217) ++ t218) ++ t219) ++ t220) ++ t221) ++ t222) ++ t223) ++ t224).size + t225.size ≤ 9223372036854775807 then ((impl_little.f k 56 2).bind fun t226 => (if ((((((((((⟨#[127, 69, 76, 70, 2, 1, 1]⟩ : ByteArray) ++ t217) ++ t218) ++ t219) ++ t220) ++ t221) ++ t222) ++ t223) ++ t224) ++ t225).size + t226.size ≤ 9223372036854775807 then ((impl_little.f k a1 2).bind fun t227 => (if (((((((((((⟨#[127, 69, 76, 70, 2, 1, 1]⟩ : ByteArray) ++ t217) ++ t218) ++ t219) ++ t220) ++ t221) ++ t222) ++ t223) ++ t224) ++ t225) ++ t226).size + t227.size ≤ 9223372036854775807 then ((strings_Repeat.f (⟨#[0]⟩ : ByteArray) 6).bind fun t228 => (if ((((((((((((⟨#[127, 69, 76, 70, 2, 1, 1]⟩ : ByteArray) ++ t217) ++ t218) ++ t219) ++ t220) ++ t221) ++ t222) ++ t223) ++ t224) ++ t225) ++ t226) ++ t227).size + t228.size ≤ 9223372036854775807 then (some (((((((((((((⟨#[127, 69, 76, 70, 2, 1, 1]⟩ : ByteArray) ++ t217) ++ t218) ++ t219) ++ t220) ++ t221) ++ t222) ++ t223) ++ t224) ++ t225) ++ t226) ++ t227) ++ t228)) else (none))) else (none))) else (none))) else (none))) else (none))) else (none))) else (none))) else (none))) else (none))) else (none))) else (none))) else (none))) = some r := h
  clear h
  replace H := Option.bind_eq_some_iff.mp H
  obtain ⟨t217, A30, H⟩ := H
  replace H : (if 7 + t217.size ≤ 9223372036854775807 then ((impl_little.f k 2 2).bind fun t218 => (if ((⟨#[127, 69, 76, 70, 2, 1, 1]⟩ : ByteArray) ++ t217).size + t218.size ≤ 9223372036854775807 then ((impl_little.f k 62 2).bind fun t219 => (if (((⟨#[127, 69, 76, 70, 2, 1, 1]⟩ : ByteArray) ++ t217) ++ t218).size + t219.size ≤ 9223372036854775807 then ((impl_little.f k 1 4).bind fun t220 => (if ((((⟨#[127, 69, 76, 70, 2, 1, 1]⟩ : ByteArray) ++ t217) ++ t218) ++ t219).size + t220.size ≤ 9223372036854775807 then ((impl_little.f k a0 8).bind fun t221 => (if (((((⟨#[127, 69, 76, 70, 2, 1, 1]⟩ : ByteArray) ++ t217) ++ t218) ++ t219) ++ t220).size + t221.size ≤ 9223372036854775807 then ((impl_little.f k 64 8).bind fun t222 => (if ((((((⟨#[127, 69, 76, 70, 2, 1, 1]⟩ : ByteArray) ++ t217) ++ t218) ++ t219) ++ t220) ++ t221).size + t222.size ≤ 9223372036854775807 then ((impl_little.f k 0 8).bind fun t223 => (if (((((((⟨#[127, 69, 76, 70, 2, 1, 1]⟩ : ByteArray) ++ t217) ++ t218) ++ t219) ++ t220) ++ t221) ++ t222).size + t223.size ≤ 9223372036854775807 then ((impl_little.f k 0 4).bind fun t224 => (if ((((((((⟨#[127, 69, 76, 70, 2, 1, 1]⟩ : ByteArray) ++ t217) ++ t218) ++ t219) ++ t220) ++ t221) ++ t222) ++ t223).size + t224.size ≤ 9223372036854775807 then ((impl_little.f k 64 2).bind fun t225 => (if (((((((((⟨#[127, 69, 76, 70, 2, 1, 1]⟩ : ByteArray) ++ t217) ++ t218) ++ t219) ++ t220) ++ t221) ++ t222) ++ t223) ++ t224).size + t225.size ≤ 9223372036854775807 then ((impl_little.f k 56 2).bind fun t226 => (if ((((((((((⟨#[127, 69, 76, 70, 2, 1, 1]⟩ : ByteArray) ++ t217) ++ t218) ++ t219) ++ t220) ++ t221) ++ t222) ++ t223) ++ t224) ++ t225).size + t226.size ≤ 9223372036854775807 then ((impl_little.f k a1 2).bind fun t227 => (if (((((((((((⟨#[127, 69, 76, 70, 2, 1, 1]⟩ : ByteArray) ++ t217) ++ t218) ++ t219) ++ t220) ++ t221) ++ t222) ++ t223) ++ t224) ++ t225) ++ t226).size + t227.size ≤ 9223372036854775807 then ((strings_Repeat.f (⟨#[0]⟩ : ByteArray) 6).bind fun t228 => (if ((((((((((((⟨#[127, 69, 76, 70, 2, 1, 1]⟩ : ByteArray) ++ t217) ++ t218) ++ t219) ++ t220) ++ t221) ++ t222) ++ t223) ++ t224) ++ t225) ++ t226) ++ t227).size + t228.size ≤ 9223372036854775807 then (some (((((((((((((⟨#[127, 69, 76, 70, 2, 1, 1]⟩ : ByteArray) ++ t217) ++ t218) ++ t219) ++ t220) ++ t221) ++ t222) ++ t223) ++ t224) ++ t225) ++ t226) ++ t227) ++ t228)) else (none))) else (none))) else (none))) else (none))) else (none))) else (none))) else (none))) else (none))) else (none))) else (none))) else (none))) else (none)) = some r := H
  have A3 := Aside0.mk A30
  clear A30
  by_cases c4 : 7 + t217.size ≤ 9223372036854775807
  · rw [if_pos c4] at H
    have c4b0 := eq_true c4
    have c4b1 : decide (7 + t217.size ≤ 9223372036854775807) = true := decide_eq_true c4
    try have c4b2 : (9223372036854775807 < 7 + t217.size) = False := eq_false (Nat.not_lt.2 c4)
    replace H := Option.bind_eq_some_iff.mp H
    obtain ⟨t218, A50, H⟩ := H
    replace H : (if ((⟨#[127, 69, 76, 70, 2, 1, 1]⟩ : ByteArray) ++ t217).size + t218.size ≤ 9223372036854775807 then ((impl_little.f k 62 2).bind fun t219 => (if (((⟨#[127, 69, 76, 70, 2, 1, 1]⟩ : ByteArray) ++ t217) ++ t218).size + t219.size ≤ 9223372036854775807 then ((impl_little.f k 1 4).bind fun t220 => (if ((((⟨#[127, 69, 76, 70, 2, 1, 1]⟩ : ByteArray) ++ t217) ++ t218) ++ t219).size + t220.size ≤ 9223372036854775807 then ((impl_little.f k a0 8).bind fun t221 => (if (((((⟨#[127, 69, 76, 70, 2, 1, 1]⟩ : ByteArray) ++ t217) ++ t218) ++ t219) ++ t220).size + t221.size ≤ 9223372036854775807 then ((impl_little.f k 64 8).bind fun t222 => (if ((((((⟨#[127, 69, 76, 70, 2, 1, 1]⟩ : ByteArray) ++ t217) ++ t218) ++ t219) ++ t220) ++ t221).size + t222.size ≤ 9223372036854775807 then ((impl_little.f k 0 8).bind fun t223 => (if (((((((⟨#[127, 69, 76, 70, 2, 1, 1]⟩ : ByteArray) ++ t217) ++ t218) ++ t219) ++ t220) ++ t221) ++ t222).size + t223.size ≤ 9223372036854775807 then ((impl_little.f k 0 4).bind fun t224 => (if ((((((((⟨#[127, 69, 76, 70, 2, 1, 1]⟩ : ByteArray) ++ t217) ++ t218) ++ t219) ++ t220) ++ t221) ++ t222) ++ t223).size + t224.size ≤ 9223372036854775807 then ((impl_little.f k 64 2).bind fun t225 => (if (((((((((⟨#[127, 69, 76, 70, 2, 1, 1]⟩ : ByteArray) ++ t217) ++ t218) ++ t219) ++ t220) ++ t221) ++ t222) ++ t223) ++ t224).size + t225.size ≤ 9223372036854775807 then ((impl_little.f k 56 2).bind fun t226 => (if ((((((((((⟨#[127, 69, 76, 70, 2, 1, 1]⟩ : ByteArray) ++ t217) ++ t218) ++ t219) ++ t220) ++ t221) ++ t222) ++ t223) ++ t224) ++ t225).size + t226.size ≤ 9223372036854775807 then ((impl_little.f k a1 2).bind fun t227 => (if (((((((((((⟨#[127, 69, 76, 70, 2, 1, 1]⟩ : ByteArray) ++ t217) ++ t218) ++ t219) ++ t220) ++ t221) ++ t222) ++ t223) ++ t224) ++ t225) ++ t226).size + t227.size ≤ 9223372036854775807 then ((strings_Repeat.f (⟨#[0]⟩ : ByteArray) 6).bind fun t228 => (if ((((((((((((⟨#[127, 69, 76, 70, 2, 1, 1]⟩ : ByteArray) ++ t217) ++ t218) ++ t219) ++ t220) ++ t221) ++ t222) ++ t223) ++ t224) ++ t225) ++ t226) ++ t227).size + t228.size ≤ 9223372036854775807 then (some (((((((((((((⟨#[127, 69, 76, 70, 2, 1, 1]⟩ : ByteArray) ++ t217) ++ t218) ++ t219) ++ t220) ++ t221) ++ t222) ++ t223) ++ t224) ++ t225) ++ t226) ++ t227) ++ t228)) else (none))) else (none))) else (none))) else (none))) else (none))) else (none))) else (none))) else (none))) else (none))) else (none))) else (none)) = some r := H
    have A5 := Aside0.mk A50
    clear A50
    by_cases c6 : ((⟨#[127, 69, 76, 70, 2, 1, 1]⟩ : ByteArray) ++ t217).size + t218.size ≤ 9223372036854775807
    · rw [if_pos c6] at H
      have c6b0 := eq_true c6
      have c6b1 : decide (((⟨#[127, 69, 76, 70, 2, 1, 1]⟩ : ByteArray) ++ t217).size + t218.size ≤ 9223372036854775807) = true := decide_eq_true c6
      try have c6b2 : (9223372036854775807 < ((⟨#[127, 69, 76, 70, 2, 1, 1]⟩ : ByteArray) ++ t217).size + t218.size) = False := eq_false (Nat.not_lt.2 c6)
      have c6b4 := c6b2
      (try simp only [ByteArray.size_append, show ((⟨#[127, 69, 76, 70, 2, 1, 1]⟩ : ByteArray)).size = 7 from rfl] at c6b4)
      replace H := Option.bind_eq_some_iff.mp H
      obtain ⟨t219, A70, H⟩ := H
      replace H : (if (((⟨#[127, 69, 76, 70, 2, 1, 1]⟩ : ByteArray) ++ t217) ++ t218).size + t219.size ≤ 9223372036854775807 then ((impl_little.f k 1 4).bind fun t220 => (if ((((⟨#[127, 69, 76, 70, 2, 1, 1]⟩ : ByteArray) ++ t217) ++ t218) ++ t219).size + t220.size ≤ 9223372036854775807 then ((impl_little.f k a0 8).bind fun t221 => (if (((((⟨#[127, 69, 76, 70, 2, 1, 1]⟩ : ByteArray) ++ t217) ++ t218) ++ t219) ++ t220).size + t221.size ≤ 9223372036854775807 then ((impl_little.f k 64 8).bind fun t222 => (if ((((((⟨#[127, 69, 76, 70, 2, 1, 1]⟩ : ByteArray) ++ t217) ++ t218) ++ t219) ++ t220) ++ t221).size + t222.size ≤ 9223372036854775807 then ((impl_little.f k 0 8).bind fun t223 => (if (((((((⟨#[127, 69, 76, 70, 2, 1, 1]⟩ : ByteArray) ++ t217) ++ t218) ++ t219) ++ t220) ++ t221) ++ t222).size + t223.size ≤ 9223372036854775807 then ((impl_little.f k 0 4).bind fun t224 => (if ((((((((⟨#[127, 69, 76, 70, 2, 1, 1]⟩ : ByteArray) ++ t217) ++ t218) ++ t219) ++ t220) ++ t221) ++ t222) ++ t223).size + t224.size ≤ 9223372036854775807 then ((impl_little.f k 64 2).bind fun t225 => (if (((((((((⟨#[127, 69, 76, 70, 2, 1, 1]⟩ : ByteArray) ++ t217) ++ t218) ++ t219) ++ t220) ++ t221) ++ t222) ++ t223) ++ t224).size + t225.size ≤ 9223372036854775807 then ((impl_little.f k 56 2).bind fun t226 => (if ((((((((((⟨#[127, 69, 76, 70, 2, 1, 1]⟩ : ByteArray) ++ t217) ++ t218) ++ t219) ++ t220) ++ t221) ++ t222) ++ t223) ++ t224) ++ t225).size + t226.size ≤ 9223372036854775807 then ((impl_little.f k a1 2).bind fun t227 => (if (((((((((((⟨#[127, 69, 76, 70, 2, 1, 1]⟩ : ByteArray) ++ t217) ++ t218) ++ t219) ++ t220) ++ t221) ++ t222) ++ t223) ++ t224) ++ t225) ++ t226).size + t227.size ≤ 9223372036854775807 then ((strings_Repeat.f (⟨#[0]⟩ : ByteArray) 6).bind fun t228 => (if ((((((((((((⟨#[127, 69, 76, 70, 2, 1, 1]⟩ : ByteArray) ++ t217) ++ t218) ++ t219) ++ t220) ++ t221) ++ t222) ++ t223) ++ t224) ++ t225) ++ t226) ++ t227).size + t228.size ≤ 9223372036854775807 then (some (((((((((((((⟨#[127, 69, 76, 70, 2, 1, 1]⟩ : ByteArray) ++ t217) ++ t218) ++ t219) ++ t220) ++ t221) ++ t222) ++ t223) ++ t224) ++ t225) ++ t226) ++ t227) ++ t228)) else (none))) else (none))) else (none))) else (none))) else (none))) else (none))) else (none))) else (none))) else (none))) else (none)) = some r := H
      have A7 := Aside0.mk A70
      clear A70
      by_cases c8 : (((⟨#[127, 69, 76, 70, 2, 1, 1]⟩ : ByteArray) ++ t217) ++ t218).size + t219.size ≤ 9223372036854775807
      · rw [if_pos c8] at H
        have c8b0 := eq_true c8
        have c8b1 : decide ((((⟨#[127, 69, 76, 70, 2, 1, 1]⟩ : ByteArray) ++ t217) ++ t218).size + t219.size ≤ 9223372036854775807) = true := decide_eq_true c8
        try have c8b2 : (9223372036854775807 < (((⟨#[127, 69, 76, 70, 2, 1, 1]⟩ : ByteArray) ++ t217) ++ t218).size + t219.size) = False := eq_false (Nat.not_lt.2 c8)
        have c8b4 := c8b2
        (try simp only [ByteArray.size_append, show ((⟨#[127, 69, 76, 70, 2, 1, 1]⟩ : ByteArray)).size = 7 from rfl] at c8b4)
        replace H := Option.bind_eq_some_iff.mp H
        obtain ⟨t220, A90, H⟩ := H
        replace H : (if ((((⟨#[127, 69, 76, 70, 2, 1, 1]⟩ : ByteArray) ++ t217) ++ t218) ++ t219).size + t220.size ≤ 9223372036854775807 then ((impl_little.f k a0 8).bind fun t221 => (if (((((⟨#[127, 69, 76, 70, 2, 1, 1]⟩ : ByteArray) ++ t217) ++ t218) ++ t219) ++ t220).size + t221.size ≤ 9223372036854775807 then ((impl_little.f k 64 8).bind fun t222 => (if ((((((⟨#[127, 69, 76, 70, 2, 1, 1]⟩ : ByteArray) ++ t217) ++ t218) ++ t219) ++ t220) ++ t221).size + t222.size ≤ 9223372036854775807 then ((impl_little.f k 0 8).bind fun t223 => (if (((((((⟨#[127, 69, 76, 70, 2, 1, 1]⟩ : ByteArray) ++ t217) ++ t218) ++ t219) ++ t220) ++ t221) ++ t222).size + t223.size ≤ 9223372036854775807 then ((impl_little.f k 0 4).bind fun t224 => (if ((((((((⟨#[127, 69, 76, 70, 2, 1, 1]⟩ : ByteArray) ++ t217) ++ t218) ++ t219) ++ t220) ++ t221) ++ t222) ++ t223).size + t224.size ≤ 9223372036854775807 then ((impl_little.f k 64 2).bind fun t225 => (if (((((((((⟨#[127, 69, 76, 70, 2, 1, 1]⟩ : ByteArray) ++ t217) ++ t218) ++ t219) ++ t220) ++ t221) ++ t222) ++ t223) ++ t224).size + t225.size ≤ 9223372036854775807 then ((impl_little.f k 56 2).bind fun t226 => (if ((((((((((⟨#[127, 69, 76, 70, 2, 1, 1]⟩ : ByteArray) ++ t217) ++ t218) ++ t219) ++ t220) ++ t221) ++ t222) ++ t223) ++ t224) ++ t225).size + t226.size ≤ 9223372036854775807 then ((impl_little.f k a1 2).bind fun t227 => (if (((((((((((⟨#[127, 69, 76, 70, 2, 1, 1]⟩ : ByteArray) ++ t217) ++ t218) ++ t219) ++ t220) ++ t221) ++ t222) ++ t223) ++ t224) ++ t225) ++ t226).size + t227.size ≤ 9223372036854775807 then ((strings_Repeat.f (⟨#[0]⟩ : ByteArray) 6).bind fun t228 => (if ((((((((((((⟨#[127, 69, 76, 70, 2, 1, 1]⟩ : ByteArray) ++ t217) ++ t218) ++ t219) ++ t220) ++ t221) ++ t222) ++ t223) ++ t224) ++ t225) ++ t226) ++ t227).size + t228.size ≤ 9223372036854775807 then (some (((((((((((((⟨#[127, 69, 76, 70, 2, 1, 1]⟩ : ByteArray) ++ t217) ++ t218) ++ t219) ++ t220) ++ t221) ++ t222) ++ t223) ++ t224) ++ t225) ++ t226) ++ t227) ++ t228)) else (none))) else (none))) else (none))) else (none))) else (none))) else (none))) else (none))) else (none))) else (none)) = some r := H
        have A9 := Aside0.mk A90
        clear A90
        by_cases c10 : ((((⟨#[127, 69, 76, 70, 2, 1, 1]⟩ : ByteArray) ++ t217) ++ t218) ++ t219).size + t220.size ≤ 9223372036854775807
        · rw [if_pos c10] at H
          have c10b0 := eq_true c10
          have c10b1 : decide (((((⟨#[127, 69, 76, 70, 2, 1, 1]⟩ : ByteArray) ++ t217) ++ t218) ++ t219).size + t220.size ≤ 9223372036854775807) = true := decide_eq_true c10
          try have c10b2 : (9223372036854775807 < ((((⟨#[127, 69, 76, 70, 2, 1, 1]⟩ : ByteArray) ++ t217) ++ t218) ++ t219).size + t220.size) = False := eq_false (Nat.not_lt.2 c10)
          have c10b4 := c10b2
          (try simp only [ByteArray.size_append, show ((⟨#[127, 69, 76, 70, 2, 1, 1]⟩ : ByteArray)).size = 7 from rfl] at c10b4)
          replace H := Option.bind_eq_some_iff.mp H
          obtain ⟨t221, A110, H⟩ := H
          replace H : (if (((((⟨#[127, 69, 76, 70, 2, 1, 1]⟩ : ByteArray) ++ t217) ++ t218) ++ t219) ++ t220).size + t221.size ≤ 9223372036854775807 then ((impl_little.f k 64 8).bind fun t222 => (if ((((((⟨#[127, 69, 76, 70, 2, 1, 1]⟩ : ByteArray) ++ t217) ++ t218) ++ t219) ++ t220) ++ t221).size + t222.size ≤ 9223372036854775807 then ((impl_little.f k 0 8).bind fun t223 => (if (((((((⟨#[127, 69, 76, 70, 2, 1, 1]⟩ : ByteArray) ++ t217) ++ t218) ++ t219) ++ t220) ++ t221) ++ t222).size + t223.size ≤ 9223372036854775807 then ((impl_little.f k 0 4).bind fun t224 => (if ((((((((⟨#[127, 69, 76, 70, 2, 1, 1]⟩ : ByteArray) ++ t217) ++ t218) ++ t219) ++ t220) ++ t221) ++ t222) ++ t223).size + t224.size ≤ 9223372036854775807 then ((impl_little.f k 64 2).bind fun t225 => (if (((((((((⟨#[127, 69, 76, 70, 2, 1, 1]⟩ : ByteArray) ++ t217) ++ t218) ++ t219) ++ t220) ++ t221) ++ t222) ++ t223) ++ t224).size + t225.size ≤ 9223372036854775807 then ((impl_little.f k 56 2).bind fun t226 => (if ((((((((((⟨#[127, 69, 76, 70, 2, 1, 1]⟩ : ByteArray) ++ t217) ++ t218) ++ t219) ++ t220) ++ t221) ++ t222) ++ t223) ++ t224) ++ t225).size + t226.size ≤ 9223372036854775807 then ((impl_little.f k a1 2).bind fun t227 => (if (((((((((((⟨#[127, 69, 76, 70, 2, 1, 1]⟩ : ByteArray) ++ t217) ++ t218) ++ t219) ++ t220) ++ t221) ++ t222) ++ t223) ++ t224) ++ t225) ++ t226).size + t227.size ≤ 9223372036854775807 then ((strings_Repeat.f (⟨#[0]⟩ : ByteArray) 6).bind fun t228 => (if ((((((((((((⟨#[127, 69, 76, 70, 2, 1, 1]⟩ : ByteArray) ++ t217) ++ t218) ++ t219) ++ t220) ++ t221) ++ t222) ++ t223) ++ t224) ++ t225) ++ t226) ++ t227).size + t228.size ≤ 9223372036854775807 then (some (((((((((((((⟨#[127, 69, 76, 70, 2, 1, 1]⟩ : ByteArray) ++ t217) ++ t218) ++ t219) ++ t220) ++ t221) ++ t222) ++ t223) ++ t224) ++ t225) ++ t226) ++ t227) ++ t228)) else (none))) else (none))) else (none))) else (none))) else (none))) else (none))) else (none))) else (none)) = some r := H
          have A11 := Aside0.mk A110
          clear A110
          by_cases c12 : (((((⟨#[127, 69, 76, 70, 2, 1, 1]⟩ : ByteArray) ++ t217) ++ t218) ++ t219) ++ t220).size + t221.size ≤ 9223372036854775807
          · rw [if_pos c12] at H
            have c12b0 := eq_true c12
            have c12b1 : decide ((((((⟨#[127, 69, 76, 70, 2, 1, 1]⟩ : ByteArray) ++ t217) ++ t218) ++ t219) ++ t220).size + t221.size ≤ 9223372036854775807) = true := decide_eq_true c12
            try have c12b2 : (9223372036854775807 < (((((⟨#[127, 69, 76, 70, 2, 1, 1]⟩ : ByteArray) ++ t217) ++ t218) ++ t219) ++ t220).size + t221.size) = False := eq_false (Nat.not_lt.2 c12)
            have c12b4 := c12b2
            (try simp only [ByteArray.size_append, show ((⟨#[127, 69, 76, 70, 2, 1, 1]⟩ : ByteArray)).size = 7 from rfl] at c12b4)
            replace H := Option.bind_eq_some_iff.mp H
            obtain ⟨t222, A130, H⟩ := H
            replace H : (if ((((((⟨#[127, 69, 76, 70, 2, 1, 1]⟩ : ByteArray) ++ t217) ++ t218) ++ t219) ++ t220) ++ t221).size + t222.size ≤ 9223372036854775807 then ((impl_little.f k 0 8).bind fun t223 => (if (((((((⟨#[127, 69, 76, 70, 2, 1, 1]⟩ : ByteArray) ++ t217) ++ t218) ++ t219) ++ t220) ++ t221) ++ t222).size + t223.size ≤ 9223372036854775807 then ((impl_little.f k 0 4).bind fun t224 => (if ((((((((⟨#[127, 69, 76, 70, 2, 1, 1]⟩ : ByteArray) ++ t217) ++ t218) ++ t219) ++ t220) ++ t221) ++ t222) ++ t223).size + t224.size ≤ 9223372036854775807 then ((impl_little.f k 64 2).bind fun t225 => (if (((((((((⟨#[127, 69, 76, 70, 2, 1, 1]⟩ : ByteArray) ++ t217) ++ t218) ++ t219) ++ t220) ++ t221) ++ t222) ++ t223) ++ t224).size + t225.size ≤ 9223372036854775807 then ((impl_little.f k 56 2).bind fun t226 => (if ((((((((((⟨#[127, 69, 76, 70, 2, 1, 1]⟩ : ByteArray) ++ t217) ++ t218) ++ t219) ++ t220) ++ t221) ++ t222) ++ t223) ++ t224) ++ t225).size + t226.size ≤ 9223372036854775807 then ((impl_little.f k a1 2).bind fun t227 => (if (((((((((((⟨#[127, 69, 76, 70, 2, 1, 1]⟩ : ByteArray) ++ t217) ++ t218) ++ t219) ++ t220) ++ t221) ++ t222) ++ t223) ++ t224) ++ t225) ++ t226).size + t227.size ≤ 9223372036854775807 then ((strings_Repeat.f (⟨#[0]⟩ : ByteArray) 6).bind fun t228 => (if ((((((((((((⟨#[127, 69, 76, 70, 2, 1, 1]⟩ : ByteArray) ++ t217) ++ t218) ++ t219) ++ t220) ++ t221) ++ t222) ++ t223) ++ t224) ++ t225) ++ t226) ++ t227).size + t228.size ≤ 9223372036854775807 then (some (((((((((((((⟨#[127, 69, 76, 70, 2, 1, 1]⟩ : ByteArray) ++ t217) ++ t218) ++ t219) ++ t220) ++ t221) ++ t222) ++ t223) ++ t224) ++ t225) ++ t226) ++ t227) ++ t228)) else (none))) else (none))) else (none))) else (none))) else (none))) else (none))) else (none)) = some r := H
            have A13 := Aside0.mk A130
            clear A130
            by_cases c14 : ((((((⟨#[127, 69, 76, 70, 2, 1, 1]⟩ : ByteArray) ++ t217) ++ t218) ++ t219) ++ t220) ++ t221).size + t222.size ≤ 9223372036854775807
            · rw [if_pos c14] at H
              have c14b0 := eq_true c14
              have c14b1 : decide (((((((⟨#[127, 69, 76, 70, 2, 1, 1]⟩ : ByteArray) ++ t217) ++ t218) ++ t219) ++ t220) ++ t221).size + t222.size ≤ 9223372036854775807) = true := decide_eq_true c14
              try have c14b2 : (9223372036854775807 < ((((((⟨#[127, 69, 76, 70, 2, 1, 1]⟩ : ByteArray) ++ t217) ++ t218) ++ t219) ++ t220) ++ t221).size + t222.size) = False := eq_false (Nat.not_lt.2 c14)
              have c14b4 := c14b2
              (try simp only [ByteArray.size_append, show ((⟨#[127, 69, 76, 70, 2, 1, 1]⟩ : ByteArray)).size = 7 from rfl] at c14b4)
              replace H := Option.bind_eq_some_iff.mp H
              obtain ⟨t223, A150, H⟩ := H
              replace H : (if (((((((⟨#[127, 69, 76, 70, 2, 1, 1]⟩ : ByteArray) ++ t217) ++ t218) ++ t219) ++ t220) ++ t221) ++ t222).size + t223.size ≤ 9223372036854775807 then ((impl_little.f k 0 4).bind fun t224 => (if ((((((((⟨#[127, 69, 76, 70, 2, 1, 1]⟩ : ByteArray) ++ t217) ++ t218) ++ t219) ++ t220) ++ t221) ++ t222) ++ t223).size + t224.size ≤ 9223372036854775807 then ((impl_little.f k 64 2).bind fun t225 => (if (((((((((⟨#[127, 69, 76, 70, 2, 1, 1]⟩ : ByteArray) ++ t217) ++ t218) ++ t219) ++ t220) ++ t221) ++ t222) ++ t223) ++ t224).size + t225.size ≤ 9223372036854775807 then ((impl_little.f k 56 2).bind fun t226 => (if ((((((((((⟨#[127, 69, 76, 70, 2, 1, 1]⟩ : ByteArray) ++ t217) ++ t218) ++ t219) ++ t220) ++ t221) ++ t222) ++ t223) ++ t224) ++ t225).size + t226.size ≤ 9223372036854775807 then ((impl_little.f k a1 2).bind fun t227 => (if (((((((((((⟨#[127, 69, 76, 70, 2, 1, 1]⟩ : ByteArray) ++ t217) ++ t218) ++ t219) ++ t220) ++ t221) ++ t222) ++ t223) ++ t224) ++ t225) ++ t226).size + t227.size ≤ 9223372036854775807 then ((strings_Repeat.f (⟨#[0]⟩ : ByteArray) 6).bind fun t228 => (if ((((((((((((⟨#[127, 69, 76, 70, 2, 1, 1]⟩ : ByteArray) ++ t217) ++ t218) ++ t219) ++ t220) ++ t221) ++ t222) ++ t223) ++ t224) ++ t225) ++ t226) ++ t227).size + t228.size ≤ 9223372036854775807 then (some (((((((((((((⟨#[127, 69, 76, 70, 2, 1, 1]⟩ : ByteArray) ++ t217) ++ t218) ++ t219) ++ t220) ++ t221) ++ t222) ++ t223) ++ t224) ++ t225) ++ t226) ++ t227) ++ t228)) else (none))) else (none))) else (none))) else (none))) else (none))) else (none)) = some r := H
              have A15 := Aside0.mk A150
              clear A150
              by_cases c16 : (((((((⟨#[127, 69, 76, 70, 2, 1, 1]⟩ : ByteArray) ++ t217) ++ t218) ++ t219) ++ t220) ++ t221) ++ t222).size + t223.size ≤ 9223372036854775807
              · rw [if_pos c16] at H
                have c16b0 := eq_true c16
                have c16b1 : decide ((((((((⟨#[127, 69, 76, 70, 2, 1, 1]⟩ : ByteArray) ++ t217) ++ t218) ++ t219) ++ t220) ++ t221) ++ t222).size + t223.size ≤ 9223372036854775807) = true := decide_eq_true c16
                try have c16b2 : (9223372036854775807 < (((((((⟨#[127, 69, 76, 70, 2, 1, 1]⟩ : ByteArray) ++ t217) ++ t218) ++ t219) ++ t220) ++ t221) ++ t222).size + t223.size) = False := eq_false (Nat.not_lt.2 c16)
                have c16b4 := c16b2
                (try simp only [ByteArray.size_append, show ((⟨#[127, 69, 76, 70, 2, 1, 1]⟩ : ByteArray)).size = 7 from rfl] at c16b4)
                replace H := Option.bind_eq_some_iff.mp H
                obtain ⟨t224, A170, H⟩ := H
                replace H : (if ((((((((⟨#[127, 69, 76, 70, 2, 1, 1]⟩ : ByteArray) ++ t217) ++ t218) ++ t219) ++ t220) ++ t221) ++ t222) ++ t223).size + t224.size ≤ 9223372036854775807 then ((impl_little.f k 64 2).bind fun t225 => (if (((((((((⟨#[127, 69, 76, 70, 2, 1, 1]⟩ : ByteArray) ++ t217) ++ t218) ++ t219) ++ t220) ++ t221) ++ t222) ++ t223) ++ t224).size + t225.size ≤ 9223372036854775807 then ((impl_little.f k 56 2).bind fun t226 => (if ((((((((((⟨#[127, 69, 76, 70, 2, 1, 1]⟩ : ByteArray) ++ t217) ++ t218) ++ t219) ++ t220) ++ t221) ++ t222) ++ t223) ++ t224) ++ t225).size + t226.size ≤ 9223372036854775807 then ((impl_little.f k a1 2).bind fun t227 => (if (((((((((((⟨#[127, 69, 76, 70, 2, 1, 1]⟩ : ByteArray) ++ t217) ++ t218) ++ t219) ++ t220) ++ t221) ++ t222) ++ t223) ++ t224) ++ t225) ++ t226).size + t227.size ≤ 9223372036854775807 then ((strings_Repeat.f (⟨#[0]⟩ : ByteArray) 6).bind fun t228 => (if ((((((((((((⟨#[127, 69, 76, 70, 2, 1, 1]⟩ : ByteArray) ++ t217) ++ t218) ++ t219) ++ t220) ++ t221) ++ t222) ++ t223) ++ t224) ++ t225) ++ t226) ++ t227).size + t228.size ≤ 9223372036854775807 then (some (((((((((((((⟨#[127, 69, 76, 70, 2, 1, 1]⟩ : ByteArray) ++ t217) ++ t218) ++ t219) ++ t220) ++ t221) ++ t222) ++ t223) ++ t224) ++ t225) ++ t226) ++ t227) ++ t228)) else (none))) else (none))) else (none))) else (none))) else (none)) = some r := H
                have A17 := Aside0.mk A170
                clear A170
                by_cases c18 : ((((((((⟨#[127, 69, 76, 70, 2, 1, 1]⟩ : ByteArray) ++ t217) ++ t218) ++ t219) ++ t220) ++ t221) ++ t222) ++ t223).size + t224.size ≤ 9223372036854775807
                · rw [if_pos c18] at H
                  have c18b0 := eq_true c18
                  have c18b1 : decide (((((((((⟨#[127, 69, 76, 70, 2, 1, 1]⟩ : ByteArray) ++ t217) ++ t218) ++ t219) ++ t220) ++ t221) ++ t222) ++ t223).size + t224.size ≤ 9223372036854775807) = true := decide_eq_true c18
                  try have c18b2 : (9223372036854775807 < ((((((((⟨#[127, 69, 76, 70, 2, 1, 1]⟩ : ByteArray) ++ t217) ++ t218) ++ t219) ++ t220) ++ t221) ++ t222) ++ t223).size + t224.size) = False := eq_false (Nat.not_lt.2 c18)
                  have c18b4 := c18b2
                  (try simp only [ByteArray.size_append, show ((⟨#[127, 69, 76, 70, 2, 1, 1]⟩ : ByteArray)).size = 7 from rfl] at c18b4)
                  replace H := Option.bind_eq_some_iff.mp H
                  obtain ⟨t225, A190, H⟩ := H
                  replace H : (if (((((((((⟨#[127, 69, 76, 70, 2, 1, 1]⟩ : ByteArray) ++ t217) ++ t218) ++ t219) ++ t220) ++ t221) ++ t222) ++ t223) ++ t224).size + t225.size ≤ 9223372036854775807 then ((impl_little.f k 56 2).bind fun t226 => (if ((((((((((⟨#[127, 69, 76, 70, 2, 1, 1]⟩ : ByteArray) ++ t217) ++ t218) ++ t219) ++ t220) ++ t221) ++ t222) ++ t223) ++ t224) ++ t225).size + t226.size ≤ 9223372036854775807 then ((impl_little.f k a1 2).bind fun t227 => (if (((((((((((⟨#[127, 69, 76, 70, 2, 1, 1]⟩ : ByteArray) ++ t217) ++ t218) ++ t219) ++ t220) ++ t221) ++ t222) ++ t223) ++ t224) ++ t225) ++ t226).size + t227.size ≤ 9223372036854775807 then ((strings_Repeat.f (⟨#[0]⟩ : ByteArray) 6).bind fun t228 => (if ((((((((((((⟨#[127, 69, 76, 70, 2, 1, 1]⟩ : ByteArray) ++ t217) ++ t218) ++ t219) ++ t220) ++ t221) ++ t222) ++ t223) ++ t224) ++ t225) ++ t226) ++ t227).size + t228.size ≤ 9223372036854775807 then (some (((((((((((((⟨#[127, 69, 76, 70, 2, 1, 1]⟩ : ByteArray) ++ t217) ++ t218) ++ t219) ++ t220) ++ t221) ++ t222) ++ t223) ++ t224) ++ t225) ++ t226) ++ t227) ++ t228)) else (none))) else (none))) else (none))) else (none)) = some r := H
                  have A19 := Aside0.mk A190
                  clear A190
                  by_cases c20 : (((((((((⟨#[127, 69, 76, 70, 2, 1, 1]⟩ : ByteArray) ++ t217) ++ t218) ++ t219) ++ t220) ++ t221) ++ t222) ++ t223) ++ t224).size + t225.size ≤ 9223372036854775807
                  · rw [if_pos c20] at H
                    have c20b0 := eq_true c20
                    have c20b1 : decide ((((((((((⟨#[127, 69, 76, 70, 2, 1, 1]⟩ : ByteArray) ++ t217) ++ t218) ++ t219) ++ t220) ++ t221) ++ t222) ++ t223) ++ t224).size + t225.size ≤ 9223372036854775807) = true := decide_eq_true c20
                    try have c20b2 : (9223372036854775807 < (((((((((⟨#[127, 69, 76, 70, 2, 1, 1]⟩ : ByteArray) ++ t217) ++ t218) ++ t219) ++ t220) ++ t221) ++ t222) ++ t223) ++ t224).size + t225.size) = False := eq_false (Nat.not_lt.2 c20)
                    have c20b4 := c20b2
                    (try simp only [ByteArray.size_append, show ((⟨#[127, 69, 76, 70, 2, 1, 1]⟩ : ByteArray)).size = 7 from rfl] at c20b4)
                    replace H := Option.bind_eq_some_iff.mp H
                    obtain ⟨t226, A210, H⟩ := H
                    replace H : (if ((((((((((⟨#[127, 69, 76, 70, 2, 1, 1]⟩ : ByteArray) ++ t217) ++ t218) ++ t219) ++ t220) ++ t221) ++ t222) ++ t223) ++ t224) ++ t225).size + t226.size ≤ 9223372036854775807 then ((impl_little.f k a1 2).bind fun t227 => (if (((((((((((⟨#[127, 69, 76, 70, 2, 1, 1]⟩ : ByteArray) ++ t217) ++ t218) ++ t219) ++ t220) ++ t221) ++ t222) ++ t223) ++ t224) ++ t225) ++ t226).size + t227.size ≤ 9223372036854775807 then ((strings_Repeat.f (⟨#[0]⟩ : ByteArray) 6).bind fun t228 => (if ((((((((((((⟨#[127, 69, 76, 70, 2, 1, 1]⟩ : ByteArray) ++ t217) ++ t218) ++ t219) ++ t220) ++ t221) ++ t222) ++ t223) ++ t224) ++ t225) ++ t226) ++ t227).size + t228.size ≤ 9223372036854775807 then (some (((((((((((((⟨#[127, 69, 76, 70, 2, 1, 1]⟩ : ByteArray) ++ t217) ++ t218) ++ t219) ++ t220) ++ t221) ++ t222) ++ t223) ++ t224) ++ t225) ++ t226) ++ t227) ++ t228)) else (none))) else (none))) else (none)) = some r := H
                    have A21 := Aside0.mk A210
                    clear A210
                    by_cases c22 : ((((((((((⟨#[127, 69, 76, 70, 2, 1, 1]⟩ : ByteArray) ++ t217) ++ t218) ++ t219) ++ t220) ++ t221) ++ t222) ++ t223) ++ t224) ++ t225).size + t226.size ≤ 9223372036854775807
                    · rw [if_pos c22] at H
                      have c22b0 := eq_true c22
                      have c22b1 : decide (((((((((((⟨#[127, 69, 76, 70, 2, 1, 1]⟩ : ByteArray) ++ t217) ++ t218) ++ t219) ++ t220) ++ t221) ++ t222) ++ t223) ++ t224) ++ t225).size + t226.size ≤ 9223372036854775807) = true := decide_eq_true c22
                      try have c22b2 : (9223372036854775807 < ((((((((((⟨#[127, 69, 76, 70, 2, 1, 1]⟩ : ByteArray) ++ t217) ++ t218) ++ t219) ++ t220) ++ t221) ++ t222) ++ t223) ++ t224) ++ t225).size + t226.size) = False := eq_false (Nat.not_lt.2 c22)
                      have c22b4 := c22b2
                      (try simp only [ByteArray.size_append, show ((⟨#[127, 69, 76, 70, 2, 1, 1]⟩ : ByteArray)).size = 7 from rfl] at c22b4)
                      replace H := Option.bind_eq_some_iff.mp H
                      obtain ⟨t227, A230, H⟩ := H
                      replace H : (if (((((((((((⟨#[127, 69, 76, 70, 2, 1, 1]⟩ : ByteArray) ++ t217) ++ t218) ++ t219) ++ t220) ++ t221) ++ t222) ++ t223) ++ t224) ++ t225) ++ t226).size + t227.size ≤ 9223372036854775807 then ((strings_Repeat.f (⟨#[0]⟩ : ByteArray) 6).bind fun t228 => (if ((((((((((((⟨#[127, 69, 76, 70, 2, 1, 1]⟩ : ByteArray) ++ t217) ++ t218) ++ t219) ++ t220) ++ t221) ++ t222) ++ t223) ++ t224) ++ t225) ++ t226) ++ t227).size + t228.size ≤ 9223372036854775807 then (some (((((((((((((⟨#[127, 69, 76, 70, 2, 1, 1]⟩ : ByteArray) ++ t217) ++ t218) ++ t219) ++ t220) ++ t221) ++ t222) ++ t223) ++ t224) ++ t225) ++ t226) ++ t227) ++ t228)) else (none))) else (none)) = some r := H
                      have A23 := Aside0.mk A230
                      clear A230
                      by_cases c24 : (((((((((((⟨#[127, 69, 76, 70, 2, 1, 1]⟩ : ByteArray) ++ t217) ++ t218) ++ t219) ++ t220) ++ t221) ++ t222) ++ t223) ++ t224) ++ t225) ++ t226).size + t227.size ≤ 9223372036854775807
                      · rw [if_pos c24] at H
                        have c24b0 := eq_true c24
                        have c24b1 : decide ((((((((((((⟨#[127, 69, 76, 70, 2, 1, 1]⟩ : ByteArray) ++ t217) ++ t218) ++ t219) ++ t220) ++ t221) ++ t222) ++ t223) ++ t224) ++ t225) ++ t226).size + t227.size ≤ 9223372036854775807) = true := decide_eq_true c24
                        try have c24b2 : (9223372036854775807 < (((((((((((⟨#[127, 69, 76, 70, 2, 1, 1]⟩ : ByteArray) ++ t217) ++ t218) ++ t219) ++ t220) ++ t221) ++ t222) ++ t223) ++ t224) ++ t225) ++ t226).size + t227.size) = False := eq_false (Nat.not_lt.2 c24)
                        have c24b4 := c24b2
                        (try simp only [ByteArray.size_append, show ((⟨#[127, 69, 76, 70, 2, 1, 1]⟩ : ByteArray)).size = 7 from rfl] at c24b4)
                        replace H := Option.bind_eq_some_iff.mp H
                        obtain ⟨t228, A250, H⟩ := H
                        replace H : (if ((((((((((((⟨#[127, 69, 76, 70, 2, 1, 1]⟩ : ByteArray) ++ t217) ++ t218) ++ t219) ++ t220) ++ t221) ++ t222) ++ t223) ++ t224) ++ t225) ++ t226) ++ t227).size + t228.size ≤ 9223372036854775807 then (some (((((((((((((⟨#[127, 69, 76, 70, 2, 1, 1]⟩ : ByteArray) ++ t217) ++ t218) ++ t219) ++ t220) ++ t221) ++ t222) ++ t223) ++ t224) ++ t225) ++ t226) ++ t227) ++ t228)) else (none)) = some r := H
                        have A25 := Aside0.mk A250
                        clear A250
                        by_cases c26 : ((((((((((((⟨#[127, 69, 76, 70, 2, 1, 1]⟩ : ByteArray) ++ t217) ++ t218) ++ t219) ++ t220) ++ t221) ++ t222) ++ t223) ++ t224) ++ t225) ++ t226) ++ t227).size + t228.size ≤ 9223372036854775807
                        · rw [if_pos c26] at H
                          have c26b0 := eq_true c26
                          have c26b1 : decide (((((((((((((⟨#[127, 69, 76, 70, 2, 1, 1]⟩ : ByteArray) ++ t217) ++ t218) ++ t219) ++ t220) ++ t221) ++ t222) ++ t223) ++ t224) ++ t225) ++ t226) ++ t227).size + t228.size ≤ 9223372036854775807) = true := decide_eq_true c26
                          try have c26b2 : (9223372036854775807 < ((((((((((((⟨#[127, 69, 76, 70, 2, 1, 1]⟩ : ByteArray) ++ t217) ++ t218) ++ t219) ++ t220) ++ t221) ++ t222) ++ t223) ++ t224) ++ t225) ++ t226) ++ t227).size + t228.size) = False := eq_false (Nat.not_lt.2 c26)
                          have c26b4 := c26b2
                          (try simp only [ByteArray.size_append, show ((⟨#[127, 69, 76, 70, 2, 1, 1]⟩ : ByteArray)).size = 7 from rfl] at c26b4)
                          obtain rfl := Option.some.inj H
                          go_enter Try.func123, Try.ntmps123
                          go_wp2_with (first | ((with_reducible refine gate_callee (f := 196) rfl ?_); refine goesL_ (some 5) rfl rfl Try.func196 by7 rfl #[.string (⟨#[0]⟩ : ByteArray), .int .i64 9] rfl by2 ?_; (with_reducible refine (strings_Repeat.calls (⟨#[0]⟩ : ByteArray) 9 t217 _ A3.out).mono ?_); rintro e w27 ⟨rfl, hb⟩; refine ⟨_, rfl, ?_⟩; have n0_ := Aside0.mk (below_step by1 hb); clear HB; have HB := n0_; clear n0_; (try clear hb); (try clear hb2); (try clear hk); (try clear hi)) | ((with_reducible refine gate_callee (f := 124) rfl ?_); refine goesL_ (some 7) rfl rfl Try.func124 by7 rfl #[.int .i64 2, .int .i64 2] rfl by2 ?_; (with_reducible refine (impl_little.calls k 2 2 t218 _ A5.out).mono ?_); rintro e w28 ⟨rfl, hb⟩; refine ⟨_, rfl, ?_⟩; have n0_ := Aside0.mk (below_step by1 hb); clear HB; have HB := n0_; clear n0_; (try clear hb); (try clear hb2); (try clear hk); (try clear hi)) | ((with_reducible refine gate_callee (f := 124) rfl ?_); refine goesL_ (some 9) rfl rfl Try.func124 by7 rfl #[.int .i64 62, .int .i64 2] rfl by2 ?_; (with_reducible refine (impl_little.calls k 62 2 t219 _ A7.out).mono ?_); rintro e w29 ⟨rfl, hb⟩; refine ⟨_, rfl, ?_⟩; have n0_ := Aside0.mk (below_step by1 hb); clear HB; have HB := n0_; clear n0_; (try clear hb); (try clear hb2); (try clear hk); (try clear hi)) | ((with_reducible refine gate_callee (f := 124) rfl ?_); refine goesL_ (some 11) rfl rfl Try.func124 by7 rfl #[.int .i64 1, .int .i64 4] rfl by2 ?_; (with_reducible refine (impl_little.calls k 1 4 t220 _ A9.out).mono ?_); rintro e w30 ⟨rfl, hb⟩; refine ⟨_, rfl, ?_⟩; have n0_ := Aside0.mk (below_step by1 hb); clear HB; have HB := n0_; clear n0_; (try clear hb); (try clear hb2); (try clear hk); (try clear hi)) | ((with_reducible refine gate_callee (f := 124) rfl ?_); refine goesL_ (some 14) rfl rfl Try.func124 by7 rfl #[.int .i64 a0, .int .i64 8] rfl by2 ?_; (with_reducible refine (impl_little.calls k a0 8 t221 _ A11.out).mono ?_); rintro e w31 ⟨rfl, hb⟩; refine ⟨_, rfl, ?_⟩; have n0_ := Aside0.mk (below_step by1 hb); clear HB; have HB := n0_; clear n0_; (try clear hb); (try clear hb2); (try clear hk); (try clear hi)) | ((with_reducible refine gate_callee (f := 124) rfl ?_); refine goesL_ (some 16) rfl rfl Try.func124 by7 rfl #[.int .i64 64, .int .i64 8] rfl by2 ?_; (with_reducible refine (impl_little.calls k 64 8 t222 _ A13.out).mono ?_); rintro e w32 ⟨rfl, hb⟩; refine ⟨_, rfl, ?_⟩; have n0_ := Aside0.mk (below_step by1 hb); clear HB; have HB := n0_; clear n0_; (try clear hb); (try clear hb2); (try clear hk); (try clear hi)) | ((with_reducible refine gate_callee (f := 124) rfl ?_); refine goesL_ (some 18) rfl rfl Try.func124 by7 rfl #[.int .i64 0, .int .i64 8] rfl by2 ?_; (with_reducible refine (impl_little.calls k 0 8 t223 _ A15.out).mono ?_); rintro e w33 ⟨rfl, hb⟩; refine ⟨_, rfl, ?_⟩; have n0_ := Aside0.mk (below_step by1 hb); clear HB; have HB := n0_; clear n0_; (try clear hb); (try clear hb2); (try clear hk); (try clear hi)) | ((with_reducible refine gate_callee (f := 124) rfl ?_); refine goesL_ (some 20) rfl rfl Try.func124 by7 rfl #[.int .i64 0, .int .i64 4] rfl by2 ?_; (with_reducible refine (impl_little.calls k 0 4 t224 _ A17.out).mono ?_); rintro e w34 ⟨rfl, hb⟩; refine ⟨_, rfl, ?_⟩; have n0_ := Aside0.mk (below_step by1 hb); clear HB; have HB := n0_; clear n0_; (try clear hb); (try clear hb2); (try clear hk); (try clear hi)) | ((with_reducible refine gate_callee (f := 124) rfl ?_); refine goesL_ (some 22) rfl rfl Try.func124 by7 rfl #[.int .i64 64, .int .i64 2] rfl by2 ?_; (with_reducible refine (impl_little.calls k 64 2 t225 _ A19.out).mono ?_); rintro e w35 ⟨rfl, hb⟩; refine ⟨_, rfl, ?_⟩; have n0_ := Aside0.mk (below_step by1 hb); clear HB; have HB := n0_; clear n0_; (try clear hb); (try clear hb2); (try clear hk); (try clear hi)) | ((with_reducible refine gate_callee (f := 124) rfl ?_); refine goesL_ (some 24) rfl rfl Try.func124 by7 rfl #[.int .i64 56, .int .i64 2] rfl by2 ?_; (with_reducible refine (impl_little.calls k 56 2 t226 _ A21.out).mono ?_); rintro e w36 ⟨rfl, hb⟩; refine ⟨_, rfl, ?_⟩; have n0_ := Aside0.mk (below_step by1 hb); clear HB; have HB := n0_; clear n0_; (try clear hb); (try clear hb2); (try clear hk); (try clear hi)) | ((with_reducible refine gate_callee (f := 124) rfl ?_); refine goesL_ (some 27) rfl rfl Try.func124 by7 rfl #[.int .i64 a1, .int .i64 2] rfl by2 ?_; (with_reducible refine (impl_little.calls k a1 2 t227 _ A23.out).mono ?_); rintro e w37 ⟨rfl, hb⟩; refine ⟨_, rfl, ?_⟩; have n0_ := Aside0.mk (below_step by1 hb); clear HB; have HB := n0_; clear n0_; (try clear hb); (try clear hb2); (try clear hk); (try clear hi)) | ((with_reducible refine gate_callee (f := 196) rfl ?_); refine goesL_ (some 29) rfl rfl Try.func196 by7 rfl #[.string (⟨#[0]⟩ : ByteArray), .int .i64 6] rfl by2 ?_; (with_reducible refine (strings_Repeat.calls (⟨#[0]⟩ : ByteArray) 6 t228 _ A25.out).mono ?_); rintro e w38 ⟨rfl, hb⟩; refine ⟨_, rfl, ?_⟩; have n0_ := Aside0.mk (below_step by1 hb); clear HB; have HB := n0_; clear n0_; (try clear hb); (try clear hb2); (try clear hk); (try clear hi)))
                          go_ret
                          exact ⟨by first | rfl | (simp [errW_none, errW_some] <;> rfl) | (simp [*, errW_none, errW_some] <;> rfl), by repeat (first | (with_reducible first | exact HB.out | apply below_alloc | apply pw_below_drewN | apply below_drew1) | exact HB.out)⟩
                        · rw [if_neg c26] at H
                          exact absurd H (by simp)
                      · rw [if_neg c24] at H
                        exact absurd H (by simp)
                    · rw [if_neg c22] at H
                      exact absurd H (by simp)
                  · rw [if_neg c20] at H
                    exact absurd H (by simp)
                · rw [if_neg c18] at H
                  exact absurd H (by simp)
              · rw [if_neg c16] at H
                exact absurd H (by simp)
            · rw [if_neg c14] at H
              exact absurd H (by simp)
          · rw [if_neg c12] at H
            exact absurd H (by simp)
        · rw [if_neg c10] at H
          exact absurd H (by simp)
      · rw [if_neg c8] at H
        exact absurd H (by simp)
    · rw [if_neg c6] at H
      exact absurd H (by simp)
  · rw [if_neg c4] at H
    exact absurd H (by simp)

end Go.Proofs.Ytigoabhkdipdeaa.PFnExactElfText
