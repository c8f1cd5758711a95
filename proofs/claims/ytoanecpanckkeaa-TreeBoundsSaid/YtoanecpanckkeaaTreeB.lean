/- TreeBounds, plainly. -/
import Derived.Test.YtoanecpanckkeaaTreeO
import Derived.Test.YtoanecpanckkeaaLwTreeBounds
namespace Go.Wk.Lf
open Go.Shelf Go.Sort Go.Proofs
set_option linter.unusedVariables false
set_option linter.unusedSimpArgs false

def pathN (p i : Nat) : List UInt8 := (List.replicate p (33 : UInt8)).set 0 (toB8 (65 + (i : Int)))
def FL (f s p : Nat) : List File := (List.range f).map fun i => File.mk (pathN p i) (List.replicate s 0)
def wantN (f s p : Nat) : Int := if 6 < f ∨ (0 < f ∧ 200 < s) then 2 else if 0 < f ∧ 20 < p then 1 else 0
def boundsB (f s p : Nat) : Bool := decide (chkL (FL f s p) = wantN f s p) && decide (sortL (FL f s p) = if wantN f s p = 0 then (FL f s p, 0) else ([], wantN f s p)) && decide (sizeL (FL f s p) = f * s)
theorem bounds_all : ((List.range 8).all fun f => (List.range 3).all fun s => (List.range 3).all fun p => boundsB f (199 + s) (19 + p)) = true := by decide +kernel
theorem bounds_at {f s p : Nat} (hf : f < 8) (hs : s < 3) (hp : p < 3) : chkL (FL f (199 + s) (19 + p)) = wantN f (199 + s) (19 + p) ∧ sortL (FL f (199 + s) (19 + p)) = (if wantN f (199 + s) (19 + p) = 0 then (FL f (199 + s) (19 + p), 0) else ([], wantN f (199 + s) (19 + p))) ∧ sizeL (FL f (199 + s) (19 + p)) = f * (199 + s) := by
  have h := bounds_all
  simp only [List.all_eq_true, List.mem_range] at h
  have h1 := h f hf s hs p hp
  simp only [boundsB, Bool.and_eq_true, decide_eq_true_eq] at h1
  exact ⟨h1.1.1, h1.1.2, h1.2⟩
theorem tmod_nat (x : Int) (n : Nat) (hn : 0 < n) : ∃ k : Nat, k < n ∧ (wu x).tmod (n : Int) = (k : Int) := by
  have h1 : 0 ≤ wu x := by rw [wu, u64_wrap]; omega
  have h2 := Int.tmod_lt_of_pos (wu x) (show (0 : Int) < (n : Int) by omega)
  have h3 := Int.tmod_nonneg (n : Int) h1
  exact ⟨((wu x).tmod (n : Int)).toNat, by omega, by omega⟩
theorem treeBounds_true (x y z : Int) (_ : (Lit.int .i64 x).wf = true) (_ : (Lit.int .i64 y).wf = true) (_ : (Lit.int .i64 z).wf = true) : cellarerlaw05_TreeBounds x y z = some true := by
  obtain ⟨f, hf, ef⟩ := tmod_nat x 8 (by omega)
  obtain ⟨s, hs, es⟩ := tmod_nat y 3 (by omega)
  obtain ⟨p, hp, ep⟩ := tmod_nat z 3 (by omega)
  have ef' : (wu x).tmod 8 = (f : Int) := ef
  have es' : (wu y).tmod 3 = (s : Int) := es
  have ep' : (wu z).tmod 3 = (p : Int) := ep
  have wf : wr (f : Int) = (f : Int) := wr_id (by omega) (by omega)
  have ws : wr (199 + wr (s : Int)) = ((199 + s : Nat) : Int) := by rw [wr_id (x := (s : Int)) (by omega) (by omega), wr_id (by omega) (by omega)]; omega
  have wp : wr (19 + wr (p : Int)) = ((19 + p : Nat) : Int) := by rw [wr_id (x := (p : Int)) (by omega) (by omega), wr_id (by omega) (by omega)]; omega
  obtain ⟨hc, hso, hsz⟩ := bounds_at hf hs hp
  unfold cellarerlaw05_TreeBounds
  -- the files are told
  have key : cellarerlaw05_TreeBounds.k1 x y z (FL f (199 + s) (19 + p)) = some true := by
    have hfl : (FL f (199 + s) (19 + p)).length = f := by simp [FL]
    have hm : f * (199 + s) ≤ 8 * 300 := Nat.mul_le_mul (by omega) (by omega)
    have k2 : ∀ e, e = wantN f (199 + s) (19 + p) → cellarerlaw05_TreeBounds.k2 x y (FL f (199 + s) (19 + p)) e = some true := by
      intro e he
      subst he
      unfold cellarerlaw05_TreeBounds.k2
      simp only [ef', es', wf, ws]
      rw [sort_eq, bd_mk, check_eq, bd_mk, hc, hso]
      by_cases h0 : wantN f (199 + s) (19 + p) = 0
      · rw [if_pos h0]
        dsimp only
        rw [if_neg (by simp [h0]), only_t (by simp [h0]), same_eq _ _ (by omega), bd_mk, only_t (by simp [h0]), size_eq _ (by omega) (by omega), bd_mk, hsz]
        have hw : wr ((f : Int) * ((199 + s : Nat) : Int)) = ((f * (199 + s) : Nat) : Int) := by
          rw [← Int.natCast_mul, wr_id (by omega) (by omega)]
        rw [hw]
        simp only [decide_true, Bool.and_true, Bool.or_true]
        rw [only_t rfl, wakes05, bd_mk]; rfl
      · rw [if_neg h0]
        rw [if_neg (by simp), only_f (by simp [h0]), bd_mk, only_f (by simp [h0]), bd_mk, only_t (by simp [h0]), wakes05, bd_mk]
        simp [h0]
    unfold cellarerlaw05_TreeBounds.k1
    simp only [ef', es', ep', wf, ws, wp]
    by_cases h1 : 6 < f ∨ (0 < f ∧ 200 < 199 + s)
    · rw [if_pos (by simp only [Bool.or_eq_true, Bool.and_eq_true, decide_eq_true_eq]; omega)]
      exact k2 _ (by rw [wantN, if_pos h1])
    · rw [if_neg (by simp only [Bool.or_eq_true, Bool.and_eq_true, decide_eq_true_eq]; omega)]
      by_cases h2 : 0 < f ∧ 20 < 19 + p
      · rw [if_pos (by simp only [Bool.and_eq_true, decide_eq_true_eq]; omega)]
        exact k2 _ (by rw [wantN, if_neg h1, if_pos h2])
      · rw [if_neg (by simp only [Bool.and_eq_true, decide_eq_true_eq]; omega)]
        exact k2 _ (by rw [wantN, if_neg h1, if_neg h2])
  refine loop_eq (S := List File × Int) (σ := Unit) (fun i _ => (FL i (199 + s) (19 + p), (i : Int))) f (fun _ _ => True) _ (i0 := 0) (s0 := ()) rfl (Nat.zero_le _) trivial (by omega) ?_ ?_
  · intro rec i _ hi _ hrec
    simp only [cellarerlaw05_TreeBounds.l3, ef', ep', wf, wp]
    rw [if_t (lt_t hi), rep_ok (by omega) (by omega), bd_mk, Int.toNat_natCast]
    refine loop_eq (S := Int × List UInt8) (σ := Unit) (fun k _ => ((k : Int), List.replicate k (33 : UInt8) ++ List.replicate (19 + p - k) 0)) (19 + p) (fun _ _ => True) _ (i0 := 0) (s0 := ()) ?_ (Nat.zero_le _) trivial (by omega) ?_ ?_
    · simp
    · intro rec2 k _ hk _ hrec2
      simp only [cellarerlaw05_TreeBounds.l6, ep', wp]
      have hkl : k < (List.replicate k (33 : UInt8) ++ List.replicate (19 + p - k) 0).length := by simp; omega
      rw [if_t (lt_t hk), ix_lt hkl, bd_mk, wr_succ (by omega), Int.toNat_natCast]
      have h1 := hrec2 () trivial
      have h2 : (List.replicate k (33 : UInt8) ++ List.replicate (19 + p - k) 0).set k 33 = List.replicate (k + 1) (33 : UInt8) ++ List.replicate (19 + p - (k + 1)) 0 := by
        rw [List.set_append_right _ _ (by simp)]
        simp only [List.length_replicate, Nat.sub_self]
        rw [show 19 + p - k = (19 + p - (k + 1)) + 1 from by omega, List.replicate_succ, List.set_cons_zero, List.replicate_succ']
        simp
      rw [h2]; exact h1
    · intro rec2 _ _
      simp only [cellarerlaw05_TreeBounds.l6, ep', wp]
      rw [if_f (lt_f (Nat.lt_irrefl _)), Nat.sub_self, List.replicate_zero, List.append_nil]
      unfold cellarerlaw05_TreeBounds.k5 cellarerlaw05_TreeBounds.k4
      have h0l : 0 < (List.replicate (19 + p) (33 : UInt8)).length := by simp; omega
      have hix : ix (List.replicate (19 + p) (33 : UInt8)) 0 = some (List.replicate (19 + p) (33 : UInt8))[0] := ix_at rfl h0l
      rw [hix, bd_mk, es', ws, rep_ok (by omega) (by omega), bd_mk, app_ok (by simp [FL]; omega), bd_mk, wr_succ (by omega), wr_id (x := 65 + (i : Int)) (by omega) (by omega)]
      have h1 := hrec () trivial
      have h2 : FL (i + 1) (199 + s) (19 + p) = FL i (199 + s) (19 + p) ++ [File.mk (pathN (19 + p) i) (List.replicate (199 + s) 0)] := by simp [FL, List.range_succ]
      rw [h2] at h1; exact h1
  · intro rec _ _
    simp only [cellarerlaw05_TreeBounds.l3, ef', wf]
    rw [if_f (lt_f (Nat.lt_irrefl _))]
    exact key
end Go.Wk.Lf
