/- A part of the plain reading of Go's code: what a function's code comes to, by a plain function. No condition. -/
import Derived.Test.YtigoabhkdipdeaaZPuMark
/- Marks in segments; images compared with themselves. -/
namespace Go.Proofs.Ytigoabhkdipdeaa
open Go Go.Proofs.Ytigoabhkdipdeaa.AM
set_option linter.all false
abbrev ImgT : Type := Int × List S_Segment × Unit
noncomputable def mkS (e : Int) : S_Segment := ⟨e, e + 1, e + 2, mT (e + 3)⟩
noncomputable def mkSs (e : Int) (L : Nat) : List S_Segment := (List.range L).map fun j : Nat => mkS (e + 4 * (j : Int))
theorem rd_mkSs (e : Int) (L j : Nat) (h : j < L) : rd z_Segment (mkSs e L) j = mkS (e + 4 * (j : Int)) := by
  unfold mkSs
  rw [rd_lt (by simpa using h)]
  simp
theorem markSegmentS_loop (e : Int) (L : Nat) (he : 0 ≤ e) (hL : e + 4 * (L : Int) + 4 ≤ 100000000) : ∀ (d i : Nat) (b : List S_Segment), i + d = L → b.length = L → (∀ j, j < i → rd z_Segment b j = mkS (e + 4 * (j : Int))) →
    Ev (fun n => w_markSegmentS_ls n (e + 4 * (i : Int)) (i : Int) b) (e + 4 * (L : Int), mkSs e L) := by
  intro d
  induction d with
  | zero =>
    intro i b hi hb hj
    have e1 : b = mkSs e L := rd_ext (d := z_Segment) (by unfold mkSs; simpa using hb) fun j h => by rw [rd_mkSs e L j (by omega)]; exact hj j (by omega)
    refine Ev.step (g := fun n => w_markSegmentS_r0 (w_markSegmentS_ls n) n (e + 4 * (i : Int)) i b) (fun n => rfl) ?_
    unfold w_markSegmentS_r0
    refine Ev.df (by simp only [Int.ofNat_eq_natCast]; omega) ?_
    rw [e1, show i = L by omega]
    exact Ev.now _
  | succ d ih =>
    intro i b hi hb hj
    have hib : i < b.length := by omega
    refine Ev.step (g := fun n => w_markSegmentS_r0 (w_markSegmentS_ls n) n (e + 4 * (i : Int)) i b) (fun n => rfl) ?_
    unfold w_markSegmentS_r0
    refine Ev.dt (by simp only [Int.ofNat_eq_natCast]; omega) (Ev.dt (by omega) (Ev.dt (by simp only [Int.ofNat_eq_natCast]; omega) (Ev.dt (by omega) (Ev.dt (by simp only [Int.ofNat_eq_natCast, List.length_set]; omega) (Ev.dt (by omega) (Ev.dt (by simp only [Int.ofNat_eq_natCast, List.length_set]; omega) ?_))))))
    rw [wI (n := e + 4 * (i : Int) + 1) (by omega) (by omega), wI (n := e + 4 * (i : Int) + 1 + 1) (by omega) (by omega), wI (n := e + 4 * (i : Int) + 1 + 1 + 1) (by omega) (by omega), wI (n := e + 4 * (i : Int) + 1 + 1 + 1 + 1) (by omega) (by omega)]
    refine Ev.bind (w_markText_ev _ (by omega)) (Ev.dt (by omega) (Ev.dt (by simp only [Int.ofNat_eq_natCast, List.length_set]; omega) ?_))
    rw [wI (n := (i : Int) + 1) (by omega) (by omega)]
    have hti : ((i : Int)).toNat = i := by omega
    have key : ∀ (q : List S_Segment), q = b.set i (mkS (e + 4 * (i : Int))) → Ev (fun n => w_markSegmentS_ls n (e + 4 * (i : Int) + 1 + 1 + 1 + 1) ((i : Int) + 1) q) (e + 4 * (L : Int), mkSs e L) := by
      rintro q rfl
      have := ih (i + 1) (b.set i (mkS (e + 4 * (i : Int)))) (by omega) (by simp [hb]) (fun j hj' => by
        rw [rd_set hib]
        split
        · rename_i h; rw [h]
        · exact hj j (by omega))
      rw [show e + 4 * ((i + 1 : Nat) : Int) = e + 4 * (i : Int) + 1 + 1 + 1 + 1 by omega, show ((i + 1 : Nat) : Int) = (i : Int) + 1 by omega] at this
      exact this
    refine key _ ?_
    rw [hti]
    have s1 : ∀ x : S_Segment, rd z_Segment (b.set i x) i = x := fun x => by rw [rd_set hib, if_pos rfl]
    simp only [List.set_set, s1]
    unfold mkS
    rw [show e + 4 * (i : Int) + 1 + 1 + 1 = e + 4 * (i : Int) + 3 by omega, show e + 4 * (i : Int) + 1 + 1 = e + 4 * (i : Int) + 2 by omega]
theorem w_markImage_ev (x : ImgT) (h : x.2.1.length ≤ 1048576) : Ev (fun n => w_markImage n x 1) (1 + 4 * (x.2.1.length : Int), mkSs 1 x.2.1.length) := by
  unfold w_markImage
  refine Ev.bind ?_ (Ev.now _)
  have := markSegmentS_loop 1 x.2.1.length (by omega) (by omega) x.2.1.length 0 x.2.1 (by omega) rfl (fun j h => by omega)
  rw [show (1 : Int) + 4 * ((0 : Nat) : Int) = 1 by omega] at this
  exact this
theorem w_eqSegment_refl (n : Nat) (x : Int × Int × Int × ByteArray × Unit) : w_eqSegment n x x = some true := by
  unfold w_eqSegment
  simp
theorem eqSegmentS_loop (l : List S_Segment) (hl : l.length ≤ 9223372036854775807) : ∀ (d i : Nat), i + d = l.length → Ev (fun n => w_eqSegmentS_ls n l l (i : Int)) true := by
  intro d
  induction d with
  | zero =>
    intro i hi
    refine Ev.step (g := fun n => w_eqSegmentS_r0 (w_eqSegmentS_ls n) n l l i) (fun n => rfl) ?_
    unfold w_eqSegmentS_r0
    exact Ev.df (by simp only [Int.ofNat_eq_natCast]; omega) (Ev.now _)
  | succ d ih =>
    intro i hi
    refine Ev.step (g := fun n => w_eqSegmentS_r0 (w_eqSegmentS_ls n) n l l i) (fun n => rfl) ?_
    unfold w_eqSegmentS_r0
    have h1 : (i : Int) < Int.ofNat l.length := by simp only [Int.ofNat_eq_natCast]; omega
    refine Ev.dt h1 (Ev.dt (by omega) (Ev.dt h1 (Ev.dt (by omega) (Ev.dt h1 (Ev.bind (Ev.all fun n => w_eqSegment_refl n _) (Ev.f rfl ?_))))))
    rw [wI (by omega) (by omega)]
    exact ih (i + 1) (by omega)
theorem w_eqImage_refl (x : ImgT) (hl : x.2.1.length ≤ 9223372036854775807) : Ev (fun n => w_eqImage n x x) true := by
  unfold w_eqImage
  refine Ev.f (by simp) (Ev.bind (a := true) ?_ (Ev.f rfl (Ev.now _)))
  unfold w_eqSegmentS w_eqSegmentS_m
  exact Ev.f (by simp) (eqSegmentS_loop x.2.1 hl x.2.1.length 0 (by omega))
theorem heldSegmentS_loop (e : Int) (L : Nat) (he : 0 ≤ e) (hL : e + 4 * (L : Int) + 4 ≤ 100000000) : ∀ (d i : Nat), i + d = L → Ev (fun n => w_heldSegmentS_ls n (mkSs e L) (e + 4 * (i : Int)) (i : Int)) (e + 4 * (L : Int)) := by
  have hlen : (mkSs e L).length = L := by unfold mkSs; simp
  intro d
  induction d with
  | zero =>
    intro i hi
    refine Ev.step (g := fun n => w_heldSegmentS_r0 (w_heldSegmentS_ls n) n (mkSs e L) (e + 4 * (i : Int)) i) (fun n => rfl) ?_
    unfold w_heldSegmentS_r0
    refine Ev.df (by simp only [Int.ofNat_eq_natCast]; omega) ?_
    rw [show i = L by omega]
    exact Ev.now _
  | succ d ih =>
    intro i hi
    refine Ev.step (g := fun n => w_heldSegmentS_r0 (w_heldSegmentS_ls n) n (mkSs e L) (e + 4 * (i : Int)) i) (fun n => rfl) ?_
    unfold w_heldSegmentS_r0
    have hti : ((i : Int)).toNat = i := by omega
    rw [hti, rd_mkSs e L i (by omega), wI (n := e + 4 * (i : Int) + 1) (by omega) (by omega), wI (n := e + 4 * (i : Int) + 1 + 1) (by omega) (by omega), wI (n := e + 4 * (i : Int) + 1 + 1 + 1) (by omega) (by omega), wI (n := e + 4 * (i : Int) + 1 + 1 + 1 + 1) (by omega) (by omega), wI (n := (i : Int) + 1) (by omega) (by omega)]
    have hlt : (i : Int) < Int.ofNat (mkSs e L).length := by simp only [Int.ofNat_eq_natCast]; omega
    have h0 : (0 : Int) ≤ (i : Int) := by omega
    refine Ev.dt hlt (Ev.dt h0 (Ev.dt hlt (Ev.f (by unfold mkS; simp) (Ev.dt h0 (Ev.dt hlt (Ev.f (by unfold mkS; simp) (Ev.dt h0 (Ev.dt hlt (Ev.f (by unfold mkS; simp; omega) (Ev.dt h0 (Ev.dt hlt (Ev.bind (w_markText_ev _ (by omega)) (Ev.f (by unfold mkS; rw [show e + 4 * (i : Int) + 1 + 1 + 1 = e + 4 * (i : Int) + 3 by omega]; simp) ?_)))))))))))))
    have := ih (i + 1) (by omega)
    rw [show e + 4 * ((i + 1 : Nat) : Int) = e + 4 * (i : Int) + 1 + 1 + 1 + 1 by omega, show ((i + 1 : Nat) : Int) = (i : Int) + 1 by omega] at this
    exact this
theorem w_heldImage_ev (a : Int) (L : Nat) (h : L ≤ 1048576) : Ev (fun n => w_heldImage n (a, mkSs 1 L, ()) 1) (1 + 4 * (L : Int)) := by
  unfold w_heldImage
  refine Ev.bind (a := 1 + 4 * (L : Int)) ?_ (Ev.df (by omega) (Ev.now _))
  have := heldSegmentS_loop 1 L (by omega) (by omega) L 0 (by omega)
  rw [show (1 : Int) + 4 * ((0 : Nat) : Int) = 1 by omega] at this
  exact this
end Go.Proofs.Ytigoabhkdipdeaa
