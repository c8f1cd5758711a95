/- The law PlanTurns, plainly. -/
import Derived.Test.YtahfmkjafddjhaaPlanF
namespace Go.Wk.Lf
open Go.Shelf Go.Sort
set_option linter.unusedVariables false

/-- from a place on, then what stands ahead of it -/
def rot {α : Type} (t : Nat) (l : List α) : List α := l.drop t ++ l.take t
theorem rot_len {α : Type} (t : Nat) (l : List α) : (rot t l).length = l.length := by simp [rot]; omega
theorem rot_perm {α : Type} (t : Nat) (l : List α) : (rot t l).Perm l := by
  have := (List.perm_append_comm (l₁ := l.drop t) (l₂ := l.take t))
  rwa [List.take_append_drop] at this
theorem mem_rot {α : Type} (t : Nat) (l : List α) (x : α) : x ∈ rot t l ↔ x ∈ l := (rot_perm t l).mem_iff
theorem rot_at {α : Type} {t : Nat} {l : List α} (ht : t < l.length) {k : Nat} (hk : k < (rot t l).length) : l[(k + t) % l.length]? = some (rot t l)[k] := by
  have hl := rot_len t l
  have e : (rot t l)[k]? = l[(k + t) % l.length]? := by
    by_cases h : k < l.length - t
    · rw [rot, List.getElem?_append_left (by simp; omega), List.getElem?_drop, Nat.mod_eq_of_lt (by omega), Nat.add_comm]
    · rw [rot, List.getElem?_append_right (by simp; omega), List.length_drop, List.getElem?_take_of_lt (by omega), show (k + t) % l.length = k - (l.length - t) from by rw [Nat.mod_eq_sub_mod (by omega), Nat.mod_eq_of_lt (by omega)]; omega]
  rw [← e, List.getElem?_eq_getElem hk]
theorem sortL_mem {a b : List Loc} (h : ∀ x, x ∈ a ↔ x ∈ b) : sortL a = sortL b := strict_unique (sortL_lt a) (sortL_lt b) fun x => by rw [mem_sortL, mem_sortL, h x]
/-- by how many places a row of so many is turned -/
def turnBy (x1 : Int) (n : Nat) : Nat := (wu x1 % (n : Int)).toNat
theorem turnBy_lt (x1 : Int) {n : Nat} (h : 0 < n) : turnBy x1 n < n := by
  have := Int.emod_lt_of_pos (wu x1) (show (0 : Int) < n by omega)
  have := Int.emod_nonneg (wu x1) (show (n : Int) ≠ 0 by omega)
  unfold turnBy; omega
theorem rem_turn (x1 : Int) {n : Nat} (h : 0 < n) (hn : n ≤ 1073741824) : rem (wu x1) (wu (n : Int)) = some (turnBy x1 n : Int) := by
  have e1 : wu (n : Int) = (n : Int) := by rw [wu, IntKind.wrap_u64]; omega
  have e2 : 0 ≤ wu x1 := by rw [wu, IntKind.wrap_u64]; omega
  rw [e1]
  unfold rem
  rw [if_neg (by omega), Int.tmod_eq_emod_of_nonneg e2, turnBy, Int.toNat_of_nonneg (Int.emod_nonneg _ (by omega))]
def turned (x1 : Int) (w : Want) : Want := { w with locs := rot (turnBy x1 w.locs.length) w.locs }
theorem sortL_turned (x1 : Int) (w : Want) : sortL (turned x1 w).locs = sortL w.locs := sortL_mem fun x => mem_rot _ _ _
theorem zipIdx_map' {α β : Type} (f : α → β) (l : List α) : ∀ n, (l.map f).zipIdx n = (l.zipIdx n).map fun p => (f p.1, p.2) := by
  induction l with
  | nil => intro n; rfl
  | cons x l ih => intro n; simp [List.zipIdx_cons, ih]
theorem readsOf_turned (x1 : Int) (ws : List Want) : readsOf (ws.map (turned x1)) = readsOf ws := by
  unfold readsOf
  rw [zipIdx_map', List.flatMap_map]
  exact congrArg (fun f => List.flatMap f ws.zipIdx) (funext fun p => by simp only [sortL_turned])
theorem noneOf_turned (x1 : Int) (ws : List Want) : noneOf (ws.map (turned x1)) = noneOf ws := by
  unfold noneOf
  rw [zipIdx_map', List.flatMap_map]
  exact congrArg (fun f => List.flatMap f ws.zipIdx) (funext fun p => by simp only [turned, rot_len])
theorem flat_len {α : Type} (f : Want → List α) (n : Nat) (ws : List Want) (h : ∀ w ∈ ws, (f w).length ≤ n) : (ws.flatMap f).length ≤ ws.length * n := by
  induction ws with
  | nil => simp
  | cons w ws ih =>
    have h1 := h w (by simp)
    have h2 := ih fun v hv => h v (by simp [hv])
    simp only [List.flatMap_cons, List.length_append, List.length_cons, Nat.add_mul]; omega
theorem planTurns_true (ws : List Want) (x1 : Int) (kw : okL Want.ok ws) {q : Prop} (k1 : q) : cellarerlaw21_PlanTurns ws x1 = some true := by
  obtain ⟨b, hb1, hb2⟩ := heavy_spec ws
  unfold cellarerlaw21_PlanTurns
  rw [hb1, bd_mk]
  cases b with
  | true => rw [if_t rfl]
  | false =>
  rw [if_f rfl]
  obtain ⟨hw60, hw40⟩ := hb2 rfl
  have hall : ∀ k, ((ws.take k).flatMap Want.locs).length ≤ 2400 := fun k => by
    have h1 := flat_len Want.locs 40 (ws.take k) fun w hw => hw40 w (List.mem_of_mem_take hw)
    have h2 : (ws.take k).length ≤ 60 := by rw [List.length_take]; omega
    have h3 := Nat.mul_le_mul_right 40 h2
    omega
  have htw : ∀ k, ((ws.take k).flatMap fun w => (turned x1 w).locs ++ w.locs).length ≤ 4800 := fun k => by
    have h1 := flat_len (fun w => (turned x1 w).locs ++ w.locs) 80 (ws.take k) fun w hw => by
      have := hw40 w (List.mem_of_mem_take hw)
      simp only [turned, List.length_append, rot_len]; omega
    have h2 : (ws.take k).length ≤ 60 := by rw [List.length_take]; omega
    have h3 := Nat.mul_le_mul_right 80 h2
    omega
  refine loop_eq (S := List Want × List Loc × List Loc × Int) (σ := Unit) (fun i _ => ((ws.take i).map (turned x1), (ws.take i).flatMap Want.locs, (ws.take i).flatMap (fun w => (turned x1 w).locs ++ w.locs), (i : Int))) ws.length (fun _ _ => True) _ (i0 := 0) (s0 := ()) rfl (Nat.zero_le _) trivial (by omega) ?_ ?_
  · intro rec i _ hi _ hrec
    simp only [cellarerlaw21_PlanTurns.l2]
    have h40 := hw40 _ (List.getElem_mem hi)
    rw [if_t (lt_t hi), ix_lt hi, bd_mk, bd_mk]
    refine loop_eq (S := Int × List Loc) (σ := Unit) (fun k _ => ((k : Int), (turned x1 ws[i]).locs.take k)) ws[i].locs.length (fun _ _ => True) _ (i0 := 0) (s0 := ()) rfl (Nat.zero_le _) trivial (by omega) ?_ ?_
    · intro rec2 k _ hk _ hrec2
      simp only [cellarerlaw21_PlanTurns.l5]
      have hn : 0 < ws[i].locs.length := by omega
      have ht := turnBy_lt x1 hn
      have hkr : k < (rot (turnBy x1 ws[i].locs.length) ws[i].locs).length := by rw [rot_len]; exact hk
      have h2 := hrec2 () trivial
      have hat : ix ws[i].locs (((k + turnBy x1 ws[i].locs.length) % ws[i].locs.length : Nat) : Int) = some (rot (turnBy x1 ws[i].locs.length) ws[i].locs)[k] := by rw [ix_nat]; exact rot_at ht hkr
      have hrm : rem (wr ((k : Int) + wr (turnBy x1 ws[i].locs.length : Int))) (ws[i].locs.length : Int) = some (((k + turnBy x1 ws[i].locs.length) % ws[i].locs.length : Nat) : Int) := by
        have hw : wr (turnBy x1 ws[i].locs.length : Int) = (turnBy x1 ws[i].locs.length : Int) := wr_id (by omega) (by omega)
        rw [hw, wr_id (by omega) (by omega)]
        unfold rem
        rw [if_neg (by omega), Int.tmod_eq_emod_of_nonneg (by omega)]
        simp
      rw [if_t (lt_t hk), ix_lt hi, bd_mk, rem_turn x1 hn (by omega), bd_mk, hrm, bd_mk, hat, bd_mk, app_ok (by simp; omega), bd_mk, wr_succ (by omega)]
      simp only [turned] at h2 ⊢
      rw [take_snoc' hkr] at h2
      exact h2
    · intro rec2 _ _
      simp only [cellarerlaw21_PlanTurns.l5, cellarerlaw21_PlanTurns.k4, cellarerlaw21_PlanTurns.k3]
      have hlt : (turned x1 ws[i]).locs.take ws[i].locs.length = (turned x1 ws[i]).locs := List.take_of_length_le (by simp only [turned, rot_len]; omega)
      have h1 := hall i
      have h3 := htw i
      have h4 : (turned x1 ws[i]).locs.length = ws[i].locs.length := by simp only [turned, rot_len]
      rw [if_f (lt_f (Nat.lt_irrefl _)), hlt, app_ok (by simp; omega), bd_mk, ix_lt hi, bd_mk, app_ok (by omega), bd_mk, app_ok (by omega), bd_mk, bd_mk, app_ok (by simp only [List.length_append]; omega), bd_mk, wr_succ (by omega)]
      have h2 := hrec () trivial
      simpa only [take_snoc' hi, List.map_append, List.flatMap_append, List.map_cons, List.map_nil, List.flatMap_cons, List.flatMap_nil, List.append_nil, turned, List.append_assoc] using h2
  · intro rec _ _
    simp only [cellarerlaw21_PlanTurns.l2, cellarerlaw21_PlanTurns.k1]
    have h1 := hall ws.length
    have h2 := htw ws.length
    rw [List.take_length] at h1 h2
    rw [if_f (lt_f (Nat.lt_irrefl _)), List.take_length, planOrder_eq _ (by omega) (fun w h => by have := hw40 w h; omega), bd_mk, planOrder_eq _ (by simp; omega) (fun w h => ?_), bd_mk]
    rotate_left
    · obtain ⟨v, hv, rfl⟩ := List.mem_map.1 h
      have := hw40 v hv
      simp only [turned, rot_len]; omega
    have e1 : orderL (ws.map (turned x1)) = orderL ws := by unfold orderL; rw [readsOf_turned]
    have h5 := orderL_len ws
    have h6 := noneOf_len ws
    have e2 : sortL (ws.flatMap fun w => (turned x1 w).locs ++ w.locs) = sortL (ws.flatMap Want.locs) := sortL_mem fun x => by
      simp only [List.mem_flatMap, List.mem_append, turned, mem_rot, or_self]
    have h7 := sortL_len (ws.flatMap Want.locs)
    rw [e1, noneOf_turned]
    dsimp only
    rw [keepReads_self _ (by omega), bd_mk, only_t rfl, keepInts_self _ (by omega), bd_mk]
    simp only [Bool.and_self]
    rw [only_t rfl, sort_eq _ (by omega), bd_mk, only_t rfl, sort_eq _ (by omega), bd_mk, e2, only_t rfl, keepLocs_self _ (by omega), bd_mk]
    rfl
end Go.Wk.Lf
