/- A part of the plain reading of Go's code: what a function's code comes to, by a plain function. No condition. -/
import Derived.Test.YtigoabhkdipdeaaZBA
namespace Go.Proofs.Ytigoabhkdipdeaa.AM
open Go.RowKit
variable {ρ : Type}

section
variable {El : Nat → Type} {K : W El → Option ρ}

theorem cond_bind {α β : Type} (b : Bool) (x y : Option α) (f : α → Option β) : (cond b x y).bind f = cond b (x.bind f) (y.bind f) := by cases b <;> rfl

theorem elim_nat {α : Type} (x : Option α) (f : α → Option ρ) : x.elim none f = (x.elim none some).bind f := by cases x <;> rfl

theorem aInt_nat (op : BinOp) (k : IntKind) (x y : Int) : aInt op k x y K = (aInt op k x y some).bind K := by
  cases op <;> simp only [aInt, cond_bind, Option.bind_some, Option.bind_none]

theorem aStr_nat (op : BinOp) (x y : ByteArray) : aStr op x y K = (aStr op x y some).bind K := by
  cases op <;> simp only [aStr, cond_bind, Option.bind_some, Option.bind_none]

theorem aBin_nat (U : Univ) {K : W U.El → Option ρ} (ti : Nat → Option TI) (op : BinOp) (t : Nat) (x y : V U.El) : aBin U ti op t x y K = (aBin U ti op t x y some).bind K := by
  unfold aBin
  split
  · split
    · exact aInt_nat ..
    · exact aInt_nat ..
    · split
      · exact aInt_nat ..
      · rfl
  · exact aStr_nat ..
  · split <;> rfl
  · split <;> rfl
  · rfl

theorem aUn_nat (op : UnOp) (x : V El) : aUn op x K = (aUn op x some).bind K := by
  unfold aUn
  split <;> rfl

theorem natOf_nat {o : Option (V El)} {d : Nat} {K1 : Nat → Option ρ} {K2 : Nat → Option (W El)} (h : ∀ n, K1 n = (K2 n).bind K) : natOf o d K1 = (natOf o d K2).bind K := by
  unfold natOf
  split
  · exact h d
  · simp only [cond_bind, Option.bind_none, h]
  · rfl
end

section
variable (G : Cfg) {K : W G.U.El → Option ρ}

theorem aIndexAddr_nat (t : Nat) (x i : V G.U.El) (m : List (Blk G.U.El)) : aIndexAddr G t x i m K = (aIndexAddr G t x i m some).bind K := by
  unfold aIndexAddr
  split
  · split
    · split <;> simp only [cond_bind, Option.bind_some, Option.bind_none]
    · split
      · split <;> simp only [cond_bind, Option.bind_some, Option.bind_none]
      · rfl
    · split <;> simp only [cond_bind, Option.bind_some, Option.bind_none]
    · simp only [cond_bind, Option.bind_some, Option.bind_none]
    · rfl
  · rfl

theorem aIndex_nat (t : Nat) (x i : V G.U.El) : aIndex G t x i K = (aIndex G t x i some).bind K := by
  unfold aIndex
  split
  · simp only [cond_bind, Option.bind_some, Option.bind_none]
  · split
    · simp only [cond_bind, Option.bind_none]
      congr 2
      split
      · split
        · exact elim_nat _ _
        · rfl
      · rfl
    · rfl
  · rfl

theorem aLoad_nat (t : Nat) (a : V G.U.El) (m : List (Blk G.U.El)) : aLoad G t a m K = (aLoad G t a m some).bind K := by
  unfold aLoad
  split
  · rfl
  · split
    · split
      · exact elim_nat _ _
      · rfl
    · split
      · split
        · exact elim_nat _ _
        · rfl
      · rfl
    · exact elim_nat _ _
    · split
      · split
        · split
          · split
            · exact elim_nat _ _
            · rfl
          · rfl
        · rfl
      · rfl
    · rfl

theorem aFieldAddr_nat (t f : Nat) (x : V G.U.El) : aFieldAddr G t f x K = (aFieldAddr G t f x some).bind K := by
  unfold aFieldAddr
  split
  · rfl
  · split
    · rfl
    · split <;> rfl

theorem aField_nat (t f : Nat) (x : V G.U.El) : aField G t f x K = (aField G t f x some).bind K := by
  unfold aField
  split
  · split
    · exact elim_nat _ _
    · rfl
  · rfl

theorem aBuild_nat (t : Nat) (ps : List (Nat × V G.U.El)) : aBuild G t ps K = (aBuild G t ps some).bind K := by
  unfold aBuild
  split
  · split
    · cases aFill G _ ps (zeroC G.U _) <;> rfl
    · rfl
  · rfl

theorem aSlice_nat (t : Nat) (x : V G.U.El) (lo hi mx : Option (V G.U.El)) (m : List (Blk G.U.El)) : aSlice G t x lo hi mx m K = (aSlice G t x lo hi mx m some).bind K := by
  unfold aSlice
  split
  · exact natOf_nat fun h => by
      rw [cond_bind]
      congr 1
      exact natOf_nat fun l => by rw [cond_bind]; rfl
  · split
    · exact natOf_nat fun h => by
        rw [cond_bind]
        congr 1
        exact natOf_nat fun l => by
          rw [cond_bind]
          congr 1
          cases hi <;> rfl
    · rfl
  · split
    · split <;> rfl
    · rfl
  · split
    · split
      · exact natOf_nat fun h => by
          rw [cond_bind]
          congr 1
          exact natOf_nat fun l => by rw [cond_bind]; rfl
      · rfl
    · rfl
  · rfl

theorem aLen_nat (t : Nat) (x : V G.U.El) (m : List (Blk G.U.El)) : aLen G t x m K = (aLen G t x m some).bind K := by
  unfold aLen
  split
  · rfl
  · rfl
  · rfl
  · split <;> rfl
  · rfl
  · rfl

theorem aConvert_nat (s d : Nat) (x : V G.U.El) (m : List (Blk G.U.El)) : aConvert G s d x m K = (aConvert G s d x m some).bind K := by
  unfold aConvert
  split
  · rfl
  · rfl
  · split
    · split <;> rfl
    · rfl
  · rfl

theorem aMinMax_nat (mn : Bool) (x y : V G.U.El) : aMinMax G mn x y K = (aMinMax G mn x y some).bind K := by
  unfold aMinMax
  split
  · split <;> rfl
  · rfl

variable {K2 : W G.U.El → List (Blk G.U.El) → Option ρ}
theorem aBuildSlice_nat (own : Bool) (t len : Nat) (ps : List (Nat × V G.U.El)) (m : List (Blk G.U.El)) : aBuildSlice G own t len ps m K2 = (aBuildSlice G own t len ps m fun w m => some (w, m)).bind fun p => K2 p.1 p.2 := by
  unfold aBuildSlice
  split
  · split
    · split <;> rfl
    · rfl
  · rfl

theorem aMake_nat (own : Bool) (t : Nat) (a b : V G.U.El) (m : List (Blk G.U.El)) : aMakeSlice G own t a b m K2 = (aMakeSlice G own t a b m fun w m => some (w, m)).bind fun p => K2 p.1 p.2 := by
  unfold aMakeSlice
  cases own <;> simp only [if_true, Bool.false_eq_true, if_false]
  all_goals
    split
    · split
      · simp only [cond_bind, Option.bind_some, Option.bind_none]
      · rfl
    · rfl

theorem aAppend_nat (t : Nat) (s x : V G.U.El) (m : List (Blk G.U.El)) : aAppend G t s x m K2 = (aAppend G t s x m fun w m => some (w, m)).bind fun p => K2 p.1 p.2 := by
  unfold aAppend
  split
  · split
    · split
      · split
        · split <;> simp only [cond_bind, Option.bind_some, Option.bind_none]
        · rfl
      · split <;> simp only [cond_bind, Option.bind_some, Option.bind_none]
      · simp only [cond_bind, Option.bind_some, Option.bind_none]
      · rfl
    · rfl
  · rfl

variable (con : Nat → Option (Con G.U.El)) (n : Nat) {K3 : V G.U.El → List (Blk G.U.El) → Option ρ}
theorem aCall_nat (dst : Option Nat) (f : Nat) (args : List (V G.U.El)) (m : List (Blk G.U.El)) : aCall G con n dst f args m K3 = (aCall G con n dst f args m fun v m => some (v, m)).bind fun p => K3 p.1 p.2 := by
  unfold aCall
  split
  · rfl
  · split
    · rfl
    · split
      · rw [Option.bind_assoc]
        rfl
      · rfl

/-- An operation's value and what it leaves. -/
def aOp1 (o : Oper) (e : Nat → V G.U.El) (m : List (Blk G.U.El)) : Option (V G.U.El × List (Blk G.U.El)) := aOp G con n o e m fun v m => some (v, m)

theorem aOp_nat (o : Oper) (e : Nat → V G.U.El) (m : List (Blk G.U.El)) : aOp G con n o e m K3 = (aOp1 G con n o e m).bind fun p => K3 p.1 p.2 := by
  unfold aOp1 aOp
  have bind1 : ∀ (x : Option (W G.U.El)), (x.bind fun w => K3 (.w w) m) = ((x.bind fun w => some (.w w, m)).bind fun p => K3 p.1 p.2) := fun x => by cases x <;> rfl
  have bind2 : ∀ (x : Option (W G.U.El × List (Blk G.U.El))), (x.bind fun p => K3 (.w p.1) p.2) = ((x.bind fun p => some (V.w p.1, p.2)).bind fun p => K3 p.1 p.2) := fun x => by cases x <;> rfl
  simp only []
  split
  · rfl
  · rfl
  · split
    · simp only [cond_bind, Option.bind_some]
    · rfl
  · split <;> rfl
  · split
    · split <;> rfl
    · rfl
  · rw [aBuild_nat, bind1, ← aBuild_nat]
  · exact (aBuildSlice_nat G (K2 := fun w m => K3 (.w w) m) ..).trans ((bind2 _).trans (congrArg (fun x => Option.bind x fun p => K3 p.1 p.2) (aBuildSlice_nat G (K2 := fun w m => some (V.w w, m)) ..).symm))
  · rw [aLoad_nat, bind1, ← aLoad_nat]
  · split <;> rfl
  · split <;> rfl
  · rw [aBin_nat, bind1, ← aBin_nat]
  · rw [aUn_nat, bind1, ← aUn_nat]
  · rw [aConvert_nat, bind1, ← aConvert_nat]
  · split
    · split <;> rfl
    · rfl
  · exact (aMake_nat G (K2 := fun w m => K3 (.w w) m) ..).trans ((bind2 _).trans (congrArg (fun x => Option.bind x fun p => K3 p.1 p.2) (aMake_nat G (K2 := fun w m => some (V.w w, m)) ..).symm))
  · rw [aSlice_nat, bind1, ← aSlice_nat]
  · rw [aFieldAddr_nat, bind1, ← aFieldAddr_nat]
  · rw [aField_nat, bind1, ← aField_nat]
  · rw [aIndexAddr_nat, bind1, ← aIndexAddr_nat]
  · rw [aIndex_nat, bind1, ← aIndex_nat]
  · split
    · split <;> rfl
    · rfl
  · split
    · split
      · rw [aLen_nat, bind1, ← aLen_nat]
      · rfl
    · split
      · split
        · exact (aAppend_nat G (K2 := fun w m => K3 (.w w) m) ..).trans ((bind2 _).trans (congrArg (fun x => Option.bind x fun p => K3 p.1 p.2) (aAppend_nat G (K2 := fun w m => some (V.w w, m)) ..).symm))
        · rfl
      · rfl
    · split
      · rw [aMinMax_nat, bind1, ← aMinMax_nat]
      · rfl
    · split
      · rw [aMinMax_nat, bind1, ← aMinMax_nat]
      · rfl
    · split
      · exact aCall_nat ..
      · rfl
    · rfl
  · rfl
end
end Go.Proofs.Ytigoabhkdipdeaa.AM
