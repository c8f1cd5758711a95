/- The law PlanLess, plainly. -/
import Derived.Test.YtahfmkjafddjhaaPlanR
namespace Go.Wk.Lf
open Go.Shelf Go.Sort
set_option linter.unusedVariables false

def oneOf (n : Nat) (w : Want) : List Read := match sortL w.locs with | [] => [] | e :: _ => [{ want := (n : Int), loc := e }]
def readsFrom (n : Nat) (ws : List Want) : List Read := (ws.zipIdx n).flatMap fun p => oneOf p.2 p.1
theorem readsOf_from (ws : List Want) : readsOf ws = readsFrom 0 ws := rfl
theorem readsFrom_cons (n : Nat) (w : Want) (ws : List Want) : readsFrom n (w :: ws) = oneOf n w ++ readsFrom (n + 1) ws := by simp [readsFrom]
theorem readsFrom_app (n : Nat) (a b : List Want) : readsFrom n (a ++ b) = readsFrom n a ++ readsFrom (n + a.length) b := by simp [readsFrom, List.zipIdx_append]
theorem mem_oneOf {n : Nat} {w : Want} {r : Read} (h : r ∈ oneOf n w) : r.want = (n : Int) := by
  unfold oneOf at h
  split at h
  · simp at h
  · simp at h; rw [h]
/-- the number after one is left out -/
def renum (k : Nat) (r : Read) : Read := { r with want := if (k : Int) < r.want then r.want - 1 else r.want }
def notK (k : Nat) (r : Read) : Bool := decide (r.want ≠ (k : Int))
theorem less_one {k n : Nat} (w : Want) (h : n < k) : ((oneOf n w).filter (notK k)).map (renum k) = oneOf n w := by
  unfold oneOf
  split
  · rfl
  · have h1 : decide ((n : Int) ≠ (k : Int)) = true := decide_eq_true (by omega)
    simp only [List.filter_cons, notK, h1, if_pos, List.filter_nil, List.map_cons, List.map_nil, renum]
    rw [if_neg (by omega)]
theorem less_self (k : Nat) (w : Want) : (oneOf k w).filter (notK k) = [] := by
  unfold oneOf
  split
  · rfl
  · simp [notK]
theorem less_next {k n : Nat} (w : Want) (h : k ≤ n) : ((oneOf (n + 1) w).filter (notK k)).map (renum k) = oneOf n w := by
  unfold oneOf
  split
  · rfl
  · have h1 : decide (((n + 1 : Nat) : Int) ≠ (k : Int)) = true := decide_eq_true (by omega)
    simp only [List.filter_cons, notK, h1, if_pos, List.filter_nil, List.map_cons, List.map_nil, renum]
    rw [if_pos (by omega)]
    congr 2; omega
theorem less_low {k : Nat} (a : List Want) : ∀ n, n + a.length ≤ k → ((readsFrom n a).filter (notK k)).map (renum k) = readsFrom n a := by
  induction a with
  | nil => intro n _; rfl
  | cons w a ih =>
    intro n h
    simp only [List.length_cons] at h
    rw [readsFrom_cons, List.filter_append, List.map_append, less_one w (by omega), ih (n + 1) (by omega)]
theorem less_high {k : Nat} (a : List Want) : ∀ n, k ≤ n → ((readsFrom (n + 1) a).filter (notK k)).map (renum k) = readsFrom n a := by
  induction a with
  | nil => intro n _; rfl
  | cons w a ih =>
    intro n h
    rw [readsFrom_cons, readsFrom_cons, List.filter_append, List.map_append, less_next w h, ih (n + 1) (by omega)]
theorem readsOf_less (ws : List Want) {k : Nat} (h : k < ws.length) : readsOf (ws.take k ++ ws.drop (k + 1)) = ((readsOf ws).filter (notK k)).map (renum k) := by
  have hw : ws = ws.take k ++ ws[k] :: ws.drop (k + 1) := by rw [← List.drop_eq_getElem_cons h, List.take_append_drop]
  have hl : (ws.take k).length = k := by simp; omega
  conv => rhs; rw [hw]
  rw [readsOf_from, readsOf_from, readsFrom_app, readsFrom_app, readsFrom_cons, hl, Nat.zero_add, List.filter_append, List.filter_append, List.map_append, List.map_append, less_self, less_low _ 0 (by omega), less_high _ k (Nat.le_refl _)]; rfl
theorem renum_lt {k : Nat} {a b : Read} (ha : notK k a = true) (hb : notK k b = true) (h : ordRead (renum k b) (renum k a) < 0) : ordRead b a < 0 := by
  rw [ordRead_lt] at h ⊢
  simp only [notK, decide_eq_true_eq] at ha hb
  rcases h with h | ⟨h1, h2⟩
  · exact .inl h
  · refine .inr ⟨h1, ?_⟩
    simp only [renum] at h2
    split at h2 <;> split at h2 <;> omega
theorem orderL_less (ws : List Want) {k : Nat} (h : k < ws.length) : orderL (ws.take k ++ ws.drop (k + 1)) = ((orderL ws).filter (notK k)).map (renum k) := by
  refine rise_unique ordRead_tot (isort_rise ordRead_swo _) ?_ ?_
  · refine List.pairwise_map.2 ?_
    refine List.Pairwise.imp_of_mem (fun {a b} ha hb hab hn => hab ?_) ((isort_rise ordRead_swo (readsOf ws)).filter (notK k))
    exact renum_lt (List.mem_filter.1 ha).2 (List.mem_filter.1 hb).2 hn
  · refine (isort_perm _ _).trans ?_
    rw [readsOf_less ws h]
    exact ((orderL_perm ws).symm.filter _).map _
theorem planLess_true (ws : List Want) (x1 : Int) (kw : okL Want.ok ws) {q : Prop} (k1 : q) : cellarerlaw21_PlanLess ws x1 = some true := by
  obtain ⟨b, hb1, hb2⟩ := heavy_spec ws
  unfold cellarerlaw21_PlanLess
  rw [hb1, bd_mk]
  by_cases hh : (b || decide ((ws.length : Int) = 0)) = true
  · rw [if_t hh]
  have hh' : (b || decide ((ws.length : Int) = 0)) = false := by simpa using hh
  rw [if_f hh']
  simp only [Bool.or_eq_false_iff, decide_eq_false_iff_not] at hh'
  obtain ⟨hbf, h0⟩ := hh'
  obtain ⟨hw60, hw40⟩ := hb2 hbf
  obtain ⟨k, hk, hr⟩ : ∃ k : Nat, k < ws.length ∧ rem (wu x1) (wu (ws.length : Int)) = some (k : Int) := by
    have e1 : wu (ws.length : Int) = (ws.length : Int) := by rw [wu, IntKind.wrap_u64]; omega
    have e2 : 0 ≤ wu x1 := by rw [wu, IntKind.wrap_u64]; omega
    refine ⟨(wu x1 % (ws.length : Int)).toNat, ?_, ?_⟩
    · have := Int.emod_lt_of_pos (wu x1) (show (0 : Int) < ws.length by omega)
      have := Int.emod_nonneg (wu x1) (show (ws.length : Int) ≠ 0 by omega)
      omega
    · rw [e1]
      unfold rem
      rw [if_neg (by omega), Int.tmod_eq_emod_of_nonneg e2, Int.toNat_of_nonneg (Int.emod_nonneg _ (by omega))]
  have ho := orderL_len ws
  have hl' : (ws.take k ++ ws.drop (k + 1)).length = ws.length - 1 := by simp; omega
  rw [hr, bd_mk, planOrder_eq _ (by omega) (fun w h => by have := hw40 w h; omega), bd_mk, wr_id (by omega) (by omega), cut_ok (by omega) (by omega) (by omega), bd_mk, app_ok (by simp; omega), bd_mk, wr_succ (by omega), cut_ok (by omega) (by omega) (by omega), bd_mk]
  simp only [Int.toNat_natCast, Int.toNat_zero, List.drop_zero, List.nil_append, List.take_length]
  rw [app_ok (by simp; omega), bd_mk, planOrder_eq _ (by omega) (fun w h => ?_), bd_mk]
  rotate_left
  · have : w ∈ ws := by
      rcases List.mem_append.1 h with h | h
      · exact List.mem_of_mem_take h
      · exact List.mem_of_mem_drop h
    have := hw40 w this; omega
  rw [orderL_less ws hk]
  refine loop_eq (S := Int × Int) (σ := Unit) (fun i _ => (((((orderL ws).take i).filter (notK k)).length : Int), (i : Int))) (orderL ws).length (fun _ _ => True) _ (i0 := 0) (s0 := ()) rfl (Nat.zero_le _) trivial (by omega) ?_ ?_
  · intro rec i _ hi _ hrec
    simp only [cellarerlaw21_PlanLess.l2]
    have hfl := List.length_filter_le (notK k) ((orderL ws).take i)
    rw [List.length_take] at hfl
    have hr := hrec () trivial
    rw [take_snoc' hi, List.filter_append, List.length_append] at hr
    rw [if_t (lt_t hi), ix_lt hi, bd_mk, bd_mk, wr_id (by omega) (by omega)]
    by_cases he : (orderL ws)[i].want = (k : Int)
    · rw [if_t (decide_eq_true he)]
      simp only [cellarerlaw21_PlanLess.k3]
      have hn : notK k (orderL ws)[i] = false := decide_eq_false (by simpa using he)
      rw [List.filter_cons_of_neg (by rw [hn]; simp)] at hr
      rw [wr_succ (by omega)]
      exact hr
    · rw [if_f (decide_eq_false he)]
      have hn : notK k (orderL ws)[i] = true := decide_eq_true he
      rw [List.filter_cons_of_pos hn] at hr
      have hsp : ((orderL ws).filter (notK k)).map (renum k) = (((orderL ws).take i).filter (notK k)).map (renum k) ++ renum k (orderL ws)[i] :: (((orderL ws).drop (i + 1)).filter (notK k)).map (renum k) := by
        conv => lhs; rw [← List.take_append_drop i (orderL ws), List.drop_eq_getElem_cons hi, List.filter_append, List.filter_cons_of_pos hn, List.map_append, List.map_cons]
      have hat : ix (((orderL ws).filter (notK k)).map (renum k)) ((((orderL ws).take i).filter (notK k)).length : Int) = some (renum k (orderL ws)[i]) := by
        rw [hsp, ix_nat, List.getElem?_append_right (by simp), List.length_map, Nat.sub_self, List.getElem?_cons_zero]
      have hlen : decide (((((orderL ws).filter (notK k)).map (renum k)).length : Int) ≤ ((((orderL ws).take i).filter (notK k)).length : Int)) = false := by
        refine decide_eq_false ?_
        rw [hsp, List.length_append, List.length_map, List.length_cons]; omega
      have step : cellarerlaw21_PlanLess.k4 (orderL ws, noneOf ws) (((orderL ws).filter (notK k)).map (renum k), noneOf (ws.take k ++ ws.drop (k + 1))) ((((orderL ws).take i).filter (notK k)).length : Int) (i : Int) rec (renum k (orderL ws)[i]).want = some true := by
        have e1 : decide ((renum k (orderL ws)[i]).want ≠ (renum k (orderL ws)[i]).want) = false := decide_eq_false (by simp)
        simp only [cellarerlaw21_PlanLess.k4, cellarerlaw21_PlanLess.k3]
        rw [hlen, Bool.not_false, only_t rfl, hat, bd_mk, e1]
        simp only [Bool.or_false, Bool.not_false, Bool.false_or]
        rw [only_t rfl, bd_mk, only_t rfl, ix_lt hi, bd_mk, only_t rfl, keepLoc_eq, bd_mk]
        rw [if_f (by simp [renum]), wr_succ (by omega), wr_succ (by omega)]
        exact hr
      by_cases hg : (k : Int) < (orderL ws)[i].want
      · rw [if_t (decide_eq_true hg), ← step]
        obtain ⟨j, hj, q, _, hjw⟩ := (mem_readsOf ws _).1 ((mem_orderL ws _).1 (List.getElem_mem hi))
        rw [show (renum k (orderL ws)[i]).want = (orderL ws)[i].want - 1 from if_pos hg, wr_id (by omega) (by omega)]
      · rw [if_f (decide_eq_false hg), ← step]
        rw [show (renum k (orderL ws)[i]).want = (orderL ws)[i].want from if_neg hg]
  · intro rec _ _
    simp only [cellarerlaw21_PlanLess.l2, cellarerlaw21_PlanLess.k1]
    rw [if_f (lt_f (Nat.lt_irrefl _)), List.take_length, List.length_map, decide_eq_true rfl, only_t rfl, wakes_true, bd_mk]; rfl
end Go.Wk.Lf
