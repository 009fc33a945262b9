/- A part of the plain reading of Go's code: what a function's code comes to, by a plain function. No condition. -/
import Derived.Test.YtigoabhkdipdeaaZPuBox
/- Marks: what the laws write into what they were handed, and find again. -/
namespace Go.Proofs.Ytigoabhkdipdeaa
open Go Go.Proofs.Ytigoabhkdipdeaa.AM
set_option linter.all false

theorem markText_loop : ∀ (k : Nat) (e : Int) (acc : ByteArray), e ≤ k → (acc.size : Int) + k ≤ 1000000000000 → ∃ t, Ev (fun n => w_markText_ls n e acc) t := by
  intro k
  induction k with
  | zero =>
    intro e acc he hs
    refine ⟨ByteArray.mk #[(109 : UInt8)] ++ acc, Ev.step (g := fun n => w_markText_r0 (w_markText_ls n) n e acc) (fun n => rfl) ?_⟩
    unfold w_markText_r0
    exact Ev.df (by omega) (Ev.df (by rw [show (ByteArray.mk #[(109 : UInt8)]).size = 1 from rfl, show IntKind.i64.max = 9223372036854775807 from rfl]; simp only [Int.ofNat_eq_natCast]; omega) (Ev.now _))
  | succ k ih =>
    intro e acc he hs
    by_cases h0 : e > 0
    · have h1 : ∀ v : Int, (ByteArray.mk (List.map (fun y => AM.byteOf [Value.int IntKind.u8 y]) ((List.replicate (1 : Nat) (0 : Int)).set (0 : Nat) v)).toArray).size = 1 := fun v => rfl
      have hd : e.tdiv 10 = e / 10 := Int.tdiv_eq_ediv_of_nonneg (by omega)
      obtain ⟨t, ht⟩ := ih (e / 10) (ByteArray.mk (List.map (fun y => AM.byteOf [Value.int IntKind.u8 y]) ((List.replicate (1 : Nat) (0 : Int)).set (0 : Nat) (IntKind.u8.wrap (IntKind.i64.wrap ((48 : Int) + e.tmod (10 : Int)))))).toArray ++ acc) (by omega) (by rw [ByteArray.size_append, h1]; omega)
      refine ⟨t, Ev.step (g := fun n => w_markText_r0 (w_markText_ls n) n e acc) (fun n => rfl) ?_⟩
      unfold w_markText_r0
      refine Ev.dt h0 (Ev.df (by rw [h1, show IntKind.i64.max = 9223372036854775807 from rfl]; simp only [Int.ofNat_eq_natCast]; omega) ?_)
      rw [hd, wI (by omega) (by omega)]
      exact ht
    · obtain ⟨t, ht⟩ := ih e acc (by omega) (by omega)
      exact ⟨t, ht⟩
theorem markText_ex (e : Int) (he : e ≤ 100000000) : ∃ t, Ev (fun n => w_markText n e) t := by
  by_cases h : e ≤ 0
  · exact ⟨_, by unfold w_markText w_markText_m; exact Ev.dt h (Ev.now _)⟩
  · obtain ⟨t, ht⟩ := markText_loop 100000000 e (ByteArray.mk #[]) (by omega) (by rw [show (ByteArray.mk #[]).size = 0 from rfl]; omega)
    exact ⟨t, by unfold w_markText w_markText_m; exact Ev.df h ht⟩
open Classical in
noncomputable def mT (e : Int) : ByteArray := if h : ∃ t, Ev (fun n => w_markText n e) t then Classical.choose h else ⟨#[]⟩
theorem w_markText_ev (e : Int) (he : e ≤ 100000000) : Ev (fun n => w_markText n e) (mT e) := by
  unfold mT
  rw [dif_pos (markText_ex e he)]
  exact Classical.choose_spec (markText_ex e he)

noncomputable def mkP (e : Int) : S_Page := ⟨e, e + 1, mT (e + 2)⟩
noncomputable def mkPs (e : Int) (L : Nat) : List S_Page := (List.range L).map fun j : Nat => mkP (e + 3 * (j : Int))
theorem rd_mkPs (e : Int) (L j : Nat) (h : j < L) : rd z_Page (mkPs e L) j = mkP (e + 3 * (j : Int)) := by
  unfold mkPs
  rw [rd_lt (by simpa using h)]
  simp
theorem markPageS_loop (e : Int) (L : Nat) (he : 0 ≤ e) (hL : e + 3 * (L : Int) + 3 ≤ 100000000) : ∀ (d i : Nat) (b : List S_Page), i + d = L → b.length = L → (∀ j, j < i → rd z_Page b j = mkP (e + 3 * (j : Int))) →
    Ev (fun n => w_markPageS_ls n (e + 3 * (i : Int)) (i : Int) b) (e + 3 * (L : Int), mkPs e L) := by
  intro d
  induction d with
  | zero =>
    intro i b hi hb hj
    have e1 : b = mkPs e L := rd_ext (d := z_Page) (by unfold mkPs; simpa using hb) fun j h => by rw [rd_mkPs e L j (by omega)]; exact hj j (by omega)
    refine Ev.step (g := fun n => w_markPageS_r0 (w_markPageS_ls n) n (e + 3 * (i : Int)) i b) (fun n => rfl) ?_
    unfold w_markPageS_r0
    refine Ev.df (by simp only [Int.ofNat_eq_natCast]; omega) ?_
    rw [e1, show i = L by omega]
    exact Ev.now _
  | succ d ih =>
    intro i b hi hb hj
    have hib : i < b.length := by omega
    refine Ev.step (g := fun n => w_markPageS_r0 (w_markPageS_ls n) n (e + 3 * (i : Int)) i b) (fun n => rfl) ?_
    unfold w_markPageS_r0
    refine Ev.dt (by simp only [Int.ofNat_eq_natCast]; omega) (Ev.dt (by omega) (Ev.dt (by simp only [Int.ofNat_eq_natCast]; omega) (Ev.dt (by omega) (Ev.dt (by simp only [Int.ofNat_eq_natCast, List.length_set]; omega) ?_))))
    rw [wI (n := e + 3 * (i : Int) + 1) (by omega) (by omega), wI (n := e + 3 * (i : Int) + 1 + 1) (by omega) (by omega), wI (n := e + 3 * (i : Int) + 1 + 1 + 1) (by omega) (by omega)]
    refine Ev.bind (w_markText_ev _ (by omega)) (Ev.dt (by omega) (Ev.dt (by simp only [Int.ofNat_eq_natCast, List.length_set]; omega) ?_))
    rw [wI (n := (i : Int) + 1) (by omega) (by omega)]
    have hti : ((i : Int)).toNat = i := by omega
    have key : ∀ (q : List S_Page), q = b.set i (mkP (e + 3 * (i : Int))) → Ev (fun n => w_markPageS_ls n (e + 3 * (i : Int) + 1 + 1 + 1) ((i : Int) + 1) q) (e + 3 * (L : Int), mkPs e L) := by
      rintro q rfl
      have := ih (i + 1) (b.set i (mkP (e + 3 * (i : Int)))) (by omega) (by simp [hb]) (fun j hj' => by
        rw [rd_set hib]
        split
        · rename_i h; rw [h]
        · exact hj j (by omega))
      rw [show e + 3 * ((i + 1 : Nat) : Int) = e + 3 * (i : Int) + 1 + 1 + 1 by omega, show ((i + 1 : Nat) : Int) = (i : Int) + 1 by omega] at this
      exact this
    refine key _ ?_
    rw [hti]
    have s1 : ∀ x : S_Page, rd z_Page (b.set i x) i = x := fun x => by rw [rd_set hib, if_pos rfl]
    simp only [List.set_set, s1]
    unfold mkP
    rw [show e + 3 * (i : Int) + 1 + 1 = e + 3 * (i : Int) + 2 by omega]
theorem heldPageS_loop (e : Int) (L : Nat) (he : 0 ≤ e) (hL : e + 3 * (L : Int) + 3 ≤ 100000000) : ∀ (d i : Nat), i + d = L → Ev (fun n => w_heldPageS_ls n (mkPs e L) (e + 3 * (i : Int)) (i : Int)) (e + 3 * (L : Int)) := by
  have hlen : (mkPs e L).length = L := by unfold mkPs; simp
  intro d
  induction d with
  | zero =>
    intro i hi
    refine Ev.step (g := fun n => w_heldPageS_r0 (w_heldPageS_ls n) n (mkPs e L) (e + 3 * (i : Int)) i) (fun n => rfl) ?_
    unfold w_heldPageS_r0
    refine Ev.df (by simp only [Int.ofNat_eq_natCast]; omega) ?_
    rw [show i = L by omega]
    exact Ev.now _
  | succ d ih =>
    intro i hi
    refine Ev.step (g := fun n => w_heldPageS_r0 (w_heldPageS_ls n) n (mkPs e L) (e + 3 * (i : Int)) i) (fun n => rfl) ?_
    unfold w_heldPageS_r0
    have hti : ((i : Int)).toNat = i := by omega
    rw [hti, rd_mkPs e L i (by omega), wI (n := e + 3 * (i : Int) + 1) (by omega) (by omega), wI (n := e + 3 * (i : Int) + 1 + 1) (by omega) (by omega), wI (n := e + 3 * (i : Int) + 1 + 1 + 1) (by omega) (by omega), wI (n := (i : Int) + 1) (by omega) (by omega)]
    have hlt : (i : Int) < Int.ofNat (mkPs e L).length := by simp only [Int.ofNat_eq_natCast]; omega
    have h0 : (0 : Int) ≤ (i : Int) := by omega
    refine Ev.dt hlt (Ev.dt h0 (Ev.dt hlt (Ev.f (by unfold mkP; simp) (Ev.dt h0 (Ev.dt hlt (Ev.f (by unfold mkP; simp) (Ev.dt h0 (Ev.dt hlt (Ev.bind (w_markText_ev _ (by omega)) (Ev.f (by unfold mkP; rw [show e + 3 * (i : Int) + 1 + 1 = e + 3 * (i : Int) + 2 by omega]; simp) ?_))))))))))
    have := ih (i + 1) (by omega)
    rw [show e + 3 * ((i + 1 : Nat) : Int) = e + 3 * (i : Int) + 1 + 1 + 1 by omega, show ((i + 1 : Nat) : Int) = (i : Int) + 1 by omega] at this
    exact this
theorem w_markPageS_ev (l : List S_Page) (e : Int) (he : 0 ≤ e) (hL : e + 3 * (l.length : Int) + 3 ≤ 100000000) : Ev (fun n => w_markPageS n l e) (e + 3 * (l.length : Int), mkPs e l.length) := by
  have := markPageS_loop e l.length he hL l.length 0 l (by omega) rfl (fun j h => by omega)
  rw [show e + 3 * ((0 : Nat) : Int) = e by omega] at this
  exact this
theorem w_heldPageS_ev (L : Nat) (e : Int) (he : 0 ≤ e) (hL : e + 3 * (L : Int) + 3 ≤ 100000000) : Ev (fun n => w_heldPageS n (mkPs e L) e) (e + 3 * (L : Int)) := by
  have := heldPageS_loop e L he hL L 0 (by omega)
  rw [show e + 3 * ((0 : Nat) : Int) = e by omega] at this
  exact this
theorem markIntS_loop : ∀ (d i : Nat) (e : Int) (b : List Int), i + d = b.length → b.length ≤ 100000000 → 0 ≤ e → e + d ≤ 100000000 → ∃ m, Ev (fun n => w_markIntS_ls n e (i : Int) b) (e + d, m) := by
  intro d
  induction d with
  | zero =>
    intro i e b hi hb he hs
    refine ⟨b, Ev.step (g := fun n => w_markIntS_r0 (w_markIntS_ls n) n e i b) (fun n => rfl) ?_⟩
    unfold w_markIntS_r0
    refine Ev.df (by simp only [Int.ofNat_eq_natCast]; omega) ?_
    rw [show e + ((0 : Nat) : Int) = e by omega]
    exact Ev.now _
  | succ d ih =>
    intro i e b hi hb he hs
    obtain ⟨m, hm⟩ := ih (i + 1) (e + 1) (b.set i e) (by simp; omega) (by simpa using hb) (by omega) (by omega)
    refine ⟨m, Ev.step (g := fun n => w_markIntS_r0 (w_markIntS_ls n) n e i b) (fun n => rfl) ?_⟩
    unfold w_markIntS_r0
    refine Ev.dt (by simp only [Int.ofNat_eq_natCast]; omega) (Ev.dt (by omega) (Ev.dt (by simp only [Int.ofNat_eq_natCast]; omega) ?_))
    rw [wI (by omega) (by omega), wI (by omega) (by omega), show ((i : Int)).toNat = i by omega]
    rw [show e + 1 + ((d : Nat) : Int) = e + ((d + 1 : Nat) : Int) by omega, show ((i + 1 : Nat) : Int) = (i : Int) + 1 by omega] at hm
    exact hm
theorem w_markIntS_ev (b : List Int) (e : Int) (he : 0 ≤ e) (hs : e + b.length ≤ 100000000) : ∃ m, Ev (fun n => w_markIntS n b e) (e + b.length, m) := markIntS_loop b.length 0 e b (by omega) (by omega) he hs
end Go.Proofs.Ytigoabhkdipdeaa
