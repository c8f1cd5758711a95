/- ManifestSizes, plainly. -/
import Derived.Test.YtoanecpanckkeaaManH
import Derived.Test.YtoanecpanckkeaaLfO
import Derived.Test.YtoanecpanckkeaaLwManifestSizes
namespace Go.Wk.Lf
open Go.Shelf Go.Sort Go.Proofs
set_option linter.unusedVariables false
set_option linter.unusedSimpArgs false

def sizesOf (l : List Part) : Nat := (l.map fun p => 4 + p.path.length + 32 * p.ids.length).sum
theorem partsBytes_sum : ∀ (l : List Part), (∀ p ∈ l, ∀ x ∈ p.ids, x.length = 32) → (l.flatMap partBytes).length = sizesOf l
  | [], _ => rfl
  | p :: l, h => by
    have h3 := partsBytes_sum l (fun q hq => h q (by simp [hq]))
    have h4 := partBytes_len (h p (by simp))
    simp only [List.flatMap_cons, List.length_append, h3, h4, sizesOf, List.map_cons, List.sum_cons]
theorem toB8_nat {n : Nat} (h : n < 256) : ((toB8 (n : Int)).toNat : Int) = (n : Int) := by
  unfold toB8; simp; omega
theorem manSizes_true (m : Manifest) (hm : Manifest.ok m) : cellarerlaw17_ManifestSizes m = some true := by
  have hk := ok_ids hm
  unfold cellarerlaw17_ManifestSizes
  rw [heavy17_eq, bd_mk]
  cases hH : heavyM m with
  | true => rfl
  | false =>
    rw [if_neg (by simp), mbytes_eq m hk, bd_mk]
    by_cases h : manB m
    · rw [if_pos h, if_neg (by simp)]
      have hn := nameB_len h.1
      have h6 := h.2.1
      have hlen := manBytes_len h hk
      have hsum : (manBytes m).length = 2 + m.name.length + sizesOf m.parts := by
        simp only [manBytes, List.length_append, List.length_cons, List.length_nil, partsBytes_sum _ hk]; omega
      refine loop_eq (S := Int × Int) (σ := Unit) (fun i _ => (((2 + m.name.length + sizesOf (m.parts.take i) : Nat) : Int), (i : Int))) m.parts.length (fun _ _ => True) _ (i0 := 0) (s0 := ()) ?_ (Nat.zero_le _) trivial (by omega) ?_ ?_
      · rw [wr_id (by omega) (by omega)]; simp [sizesOf]
      · intro rec i _ hi _ hrec
        simp only [cellarerlaw17_ManifestSizes.l2]
        rw [if_t (lt_t hi), ix_lt hi, bd_mk, wr_succ (by omega)]
        have hsz : sizesOf (m.parts.take (i + 1)) = sizesOf (m.parts.take i) + (4 + m.parts[i].path.length + 32 * m.parts[i].ids.length) := by
          rw [take_snoc' hi]; simp only [sizesOf, List.map_append, List.sum_append, List.map_cons, List.map_nil, List.sum_cons, List.sum_nil, Nat.add_zero]
        have hp := partB_num (manB_parts h _ (List.getElem_mem hi))
        have hpn := nameB_len hp.1
        have hle : sizesOf (m.parts.take i) ≤ 5000 := by
          rw [← partsBytes_sum _ fun p hp => hk p (List.mem_of_mem_take hp)]
          refine Nat.le_trans (partsBytes_len _ (fun p hp => hk p (List.mem_of_mem_take hp)) fun p hp => ?_) (by simp; omega)
          have h2 := partB_num (manB_parts h p (List.mem_of_mem_take hp)); have h3 := nameB_len h2.1; exact ⟨h3.2, h2.2.2.2.1⟩
        have := hrec () trivial
        rw [hsz] at this
        rw [← this]
        congr 2
        rw [wr_id (x := ((2 + m.name.length + sizesOf (m.parts.take i) : Nat) : Int) + 4) (by omega) (by omega), wr_id (x := ((2 + m.name.length + sizesOf (m.parts.take i) : Nat) : Int) + 4 + _) (by omega) (by omega), wr_id (x := 32 * _) (by omega) (by omega), wr_id (by omega) (by omega)]
        omega
      · intro rec _ _
        simp only [cellarerlaw17_ManifestSizes.l2, cellarerlaw17_ManifestSizes.k1]
        rw [if_f (lt_f (Nat.lt_irrefl _)), List.take_length]
        have e0 : decide (((manBytes m).length : Int) = ((2 + m.name.length + sizesOf m.parts : Nat) : Int)) = true := by rw [hsum]; simp
        rw [e0, only_t rfl]
        have hx0 : ix (manBytes m) 0 = some (toB8 (m.name.length : Int)) := rfl
        rw [hx0, bd_mk, toB8_nat (by omega), Bool.true_and, only_t (by simp)]
        rw [wr_id (x := 1 + (m.name.length : Int)) (by omega) (by omega), cut_ok (by omega) (by omega) (by omega), bd_mk]
        have hmb : manBytes m = toB8 (m.name.length : Int) :: (m.name ++ toB8 (m.parts.length : Int) :: m.parts.flatMap partBytes) := by simp [manBytes]
        have hcut : ((manBytes m).take (1 + (m.name.length : Int)).toNat).drop (1 : Int).toNat = m.name := by
          rw [show (1 + (m.name.length : Int)).toNat = 1 + m.name.length by omega, show (1 : Int).toNat = 1 from rfl]
          rw [hmb, Nat.add_comm, List.take_succ_cons, List.drop_succ_cons, List.drop_zero, List.take_left]
        rw [hcut]
        have hx1 : ix (manBytes m) (1 + (m.name.length : Int)) = some (toB8 (m.parts.length : Int)) := by
          rw [show (1 + (m.name.length : Int)) = ((m.name.length + 1 : Nat) : Int) by omega, ix_nat]
          rw [hmb, List.getElem?_cons_succ, List.getElem?_append_right (Nat.le_refl _), Nat.sub_self]; rfl
        rw [only_t (by simp), hx1, bd_mk, toB8_nat (by omega), only_t (by simp), wakes17, bd_mk]
        simp
    · rw [if_neg h, if_pos (by simp), only_t (by simp), wakes17, bd_mk]; rfl
end Go.Wk.Lf
