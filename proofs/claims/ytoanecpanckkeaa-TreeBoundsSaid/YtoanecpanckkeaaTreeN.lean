/- TreeNames, plainly. -/
import Derived.Test.YtoanecpanckkeaaTreeP
import Derived.Test.YtoanecpanckkeaaLfO
import Derived.Test.YtoanecpanckkeaaLwTreeNames
namespace Go.Wk.Lf
open Go.Shelf Go.Sort Go.Proofs
set_option linter.unusedVariables false
set_option linter.unusedSimpArgs false

theorem wu_id {n : Nat} (h : n < 4611686018427387904) : wu (n : Int) = (n : Int) := by
  rw [wu, u64_wrap]; omega
theorem rem_turn (x : Int) (n : Nat) (hn : 0 < n) (h : n < 4611686018427387904) : ∃ k : Nat, k < n ∧ rem (wu x) (wu (n : Int)) = some (k : Int) := by
  rw [wu_id h]
  have h1 : 0 ≤ wu x := by rw [wu, u64_wrap]; omega
  refine ⟨((wu x).tmod (n : Int)).toNat, ?_, ?_⟩
  · have h2 := Int.tmod_lt_of_pos (wu x) (show (0 : Int) < (n : Int) by omega)
    have h3 := Int.tmod_nonneg (n : Int) h1
    omega
  · unfold rem
    rw [if_neg (by omega)]
    have h3 := Int.tmod_nonneg (n : Int) h1
    rw [Int.toNat_of_nonneg h3]
theorem treeNames_true (s : List UInt8) (x : Int) (b : UInt8) (hs : s.length ≤ maxLen) (_ : (Lit.int .i64 x).wf = true) (_ : okT b) : cellarerlaw05_TreeNames s x b = some true := by
  unfold cellarerlaw05_TreeNames
  by_cases h60 : 60 < s.length
  · rw [if_pos (by simp; omega)]
  rw [if_neg (by simp; omega)]
  refine loop_eq (S := Bool × Int) (σ := Unit) (fun i _ => (((decide (1 ≤ s.length) && decide (s.length ≤ 20)) && (s.take i).all seen), (i : Int))) s.length (fun _ _ => True) _ (i0 := 0) (s0 := ()) ?_ (Nat.zero_le _) trivial (by omega) ?_ ?_
  · simp only [List.take_zero, List.all_nil, Bool.and_true]
    congr 1
    rw [Bool.eq_iff_iff]; simp only [Bool.and_eq_true, decide_eq_true_eq]; omega
  · intro rec i _ hi _ hrec
    simp only [cellarerlaw05_TreeNames.l2]
    rw [if_t (lt_t hi)]
    have hr := hrec () trivial
    rw [take_snoc' hi, List.all_append] at hr
    simp only [List.all_cons, List.all_nil, Bool.and_true] at hr
    rw [← Bool.and_assoc] at hr
    generalize hB : ((decide (1 ≤ s.length) && decide (s.length ≤ 20)) && (s.take i).all seen) = B at hr ⊢
    cases B with
    | false => rw [only_f rfl, bd_mk, only_f (by simp), bd_mk, wr_succ (by omega)]; simpa using hr
    | true =>
      rw [only_t rfl, ix_lt hi, bd_mk]
      by_cases h33 : 33 ≤ s[i].toNat
      · have h33' : (33 : Int) ≤ (s[i].toNat : Int) := by omega
        rw [only_t (by simp [h33']), bd_mk, wr_succ (by omega)]
        rw [← hr]
        congr 2
        simp only [seen, h33, h33', decide_true, Bool.true_and]
        rw [Bool.eq_iff_iff]; simp only [decide_eq_true_eq]; omega
      · have h33' : ¬ (33 : Int) ≤ (s[i].toNat : Int) := by omega
        rw [only_f (by simp [h33']), bd_mk, wr_succ (by omega)]
        rw [← hr]
        congr 2
        simp [seen, h33, h33']
  · intro rec _ _
    simp only [cellarerlaw05_TreeNames.l2, cellarerlaw05_TreeNames.k1]
    rw [if_f (lt_f (Nat.lt_irrefl _)), List.take_length, name_eq, bd_mk]
    change (if (nameB s != nameB s) = true then _ else if (!nameB s) = true then _ else _) = _
    rw [if_neg (by simp)]
    cases hN : nameB s with
    | false => rw [if_pos (by simp), wakes05]; rfl
    | true =>
      rw [if_neg (by simp)]
      have hN2 := hN
      simp only [nameB, Bool.and_eq_true, decide_eq_true_eq] at hN2
      obtain ⟨⟨h1, h20⟩, hall⟩ := hN2
      obtain ⟨k, hk, hr⟩ := rem_turn x s.length (by omega) (by omega)
      have hk1 : wr ((k : Int) + 1) = ((k + 1 : Nat) : Int) := wr_succ (by omega)
      rw [hr, bd_mk, wr_id (by omega) (by omega), cut_ok (by omega) (by omega) (by omega), bd_mk, hk1, Int.toNat_natCast]
      have hc1 : ∀ (a c : List UInt8), a.length + c.length ≤ 1000 → cat a c = some (a ++ c) := fun a c h => if_pos (by omega)
      rw [hc1 _ _ (by simp; omega), bd_mk, cut_ok (by omega) (by omega) (by omega), bd_mk, hc1 _ _ (by simp; omega), bd_mk]
      simp only [Int.toNat_natCast, Int.toNat_zero, List.drop_zero, List.take_length]
      rw [name_eq, bd_mk]
      have hname : nameB (s.take k ++ [b] ++ s.drop (k + 1)) = seen b := by
        have hlen : (s.take k ++ [b] ++ s.drop (k + 1)).length = s.length := by simp; omega
        have ha1 : (s.take k).all seen = true := by
          rw [List.all_eq_true] at hall ⊢; exact fun y hy => hall y (List.mem_of_mem_take hy)
        have ha2 : (s.drop (k + 1)).all seen = true := by
          rw [List.all_eq_true] at hall ⊢; exact fun y hy => hall y (List.mem_of_mem_drop hy)
        unfold nameB
        rw [hlen, List.all_append, List.all_append, ha1, ha2]
        simp [h1, h20]
      rw [hname]
      have hseen : (decide (33 ≤ (b.toNat : Int)) && decide ((b.toNat : Int) ≤ 126)) = seen b := by
        unfold seen
        rw [Bool.eq_iff_iff]; simp only [Bool.and_eq_true, decide_eq_true_eq]; omega
      rw [hseen]
      simp only [beq_self_eq_true, Bool.true_and]
      rw [only_t rfl, hc1 _ _ (by omega), bd_mk, only_t rfl, name_eq, bd_mk]
      have h2 : nameB (s ++ s) = decide (wr (2 * (s.length : Int)) ≤ 20) := by
        rw [wr_id (by omega) (by omega)]
        unfold nameB
        rw [List.all_append, hall]
        rw [Bool.eq_iff_iff]; simp only [List.length_append, Bool.and_true, Bool.and_eq_true, decide_eq_true_eq]; omega
      rw [h2]
      simp only [beq_self_eq_true, Bool.true_and]
      rw [only_t rfl, wakes05, bd_mk]
end Go.Wk.Lf
