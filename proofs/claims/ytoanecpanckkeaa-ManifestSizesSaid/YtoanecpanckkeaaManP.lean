/- What manifest.Check and manifest.Bytes tell, plainly. -/
import Derived.Test.YtoanecpanckkeaaManT
import Derived.Test.YtoanecpanckkeaaLfM1
namespace Go.Wk.Lf
open Go.Shelf Go.Sort Go.Proofs
set_option linter.unusedVariables false
set_option linter.unusedSimpArgs false

def partB (p : Part) : Bool := (((nameB p.path && decide (0 ≤ p.size)) && decide (p.size ≤ 200)) && decide (p.ids.length ≤ 25)) && (decide (p.ids.length = 0) == decide (p.size = 0))
theorem part_eq (p : Part) : manifest_part p = some (partB p) := by
  unfold manifest_part partB
  rw [name_eq, bd_mk]
  have h1 : decide ((p.ids.length : Int) ≤ 25) = decide (p.ids.length ≤ 25) := by rw [decide_eq_decide]; omega
  have h2 : decide ((p.ids.length : Int) = 0) = decide (p.ids.length = 0) := by rw [decide_eq_decide]; omega
  rw [h1, h2]
theorem adj_pairwise {α : Type} (R : α → α → Prop) (ht : ∀ {a b c}, R a b → R b c → R a c) (l : List α) : l.Pairwise R ↔ ∀ i (h : i < l.length), 0 < i → R (l[i - 1]'(by omega)) l[i] := by
  constructor
  · intro h i hi h0
    exact List.pairwise_iff_getElem.1 h (i - 1) i (by omega) hi (by omega)
  · intro h
    rw [List.pairwise_iff_getElem]
    intro i j hi hj hij
    induction j with
    | zero => omega
    | succ j ih =>
      have h1 := h (j + 1) hj (by omega)
      rcases (by omega : i = j ∨ i < j) with rfl | h2
      · exact h1
      · exact ht (ih (by omega) h2) h1
def risesP (l : List Part) : Prop := l.Pairwise fun a b => sLt a.path b.path = true
instance (l : List Part) : Decidable (risesP l) := by unfold risesP; infer_instance
def manB (m : Manifest) : Prop := nameB m.name = true ∧ m.parts.length ≤ 6 ∧ (m.parts.all partB) = true ∧ risesP m.parts
instance (m : Manifest) : Decidable (manB m) := by unfold manB; infer_instance
/-- a loop over parts that looks at each, and at the one ahead of it -/
theorem adj_iff (l : List Part) (q : Part → Bool) : (∀ i, i < l.length → (q (l.getD i default) && (!decide (0 < i) || sLt (l.getD (i - 1) default).path (l.getD i default).path)) = true) ↔ (l.all q = true ∧ risesP l) := by
  constructor
  · intro h
    refine ⟨?_, (adj_pairwise (fun a b : Part => sLt a.path b.path = true) (fun h1 h2 => sLt_trans h1 h2) l).2 fun i hi h0 => ?_⟩
    · rw [List.all_eq_true]
      intro x hx
      obtain ⟨j, hj, rfl⟩ := List.getElem_of_mem hx
      have h1 := h j hj
      simp only [List.getD_eq_getElem?_getD, List.getElem?_eq_getElem hj, Option.getD_some, Bool.and_eq_true] at h1
      exact h1.1
    · have h1 := h i hi
      have hi' : i - 1 < l.length := by omega
      simp only [List.getD_eq_getElem?_getD, List.getElem?_eq_getElem hi, List.getElem?_eq_getElem hi', Option.getD_some, Bool.and_eq_true, h0, decide_true, Bool.not_true, Bool.false_or] at h1
      exact h1.2
  · rintro ⟨h1, h2⟩ i hi
    rw [List.all_eq_true] at h1
    have h3 := h1 _ (List.getElem_mem hi)
    simp only [List.getD_eq_getElem?_getD, List.getElem?_eq_getElem hi, Option.getD_some, h3, Bool.true_and]
    by_cases h0 : 0 < i
    · have hi' : i - 1 < l.length := by omega
      simp only [List.getElem?_eq_getElem hi', Option.getD_some, h0, decide_true, Bool.not_true, Bool.false_or]
      exact (adj_pairwise (fun a b : Part => sLt a.path b.path = true) (fun h1 h2 => sLt_trans h1 h2) l).1 h2 i hi h0
    · simp [h0]
/-- the two tests of a place, as the code has them -/
theorem test_eq (l : List Part) (i : Nat) (hi : i < l.length) (hl : l.length < 1000000000) (N : Bool) {β : Type} (K : Part → Option β) :
    (bd (only ((!(!N)) && decide (0 < (i : Int))) (ix l (wr ((i : Int) - 1))) (Part.mk [] 0 [])) K) = if N = true ∧ 0 < i then K (l.getD (i - 1) default) else K (Part.mk [] 0 []) := by
  cases N with
  | false => rw [only_f (by simp), bd_mk]; simp
  | true =>
    by_cases h0 : 0 < i
    · have hi' : i - 1 < l.length := by omega
      rw [only_t (by simp; omega), wr_pred h0 (by omega), ix_lt hi', bd_mk, if_pos ⟨rfl, h0⟩]
      simp [List.getD_eq_getElem?_getD, List.getElem?_eq_getElem hi']
    · rw [only_f (by simp; omega), bd_mk, if_neg (by omega)]
theorem mcheck_eq (m : Manifest) : manifest_Check m = some (if manB m then 0 else 1) := by
  unfold manifest_Check
  rw [name_eq, bd_mk]
  by_cases h0 : nameB m.name = true ∧ m.parts.length ≤ 6
  · obtain ⟨hn, h6⟩ := h0
    rw [if_neg (by simp only [hn]; simp; omega)]
    rw [loop_all (x0 := (0 : Int)) (fun i => (i : Int)) m.parts.length (fun i => partB (m.parts.getD i default) && (!decide (0 < i) || sLt (m.parts.getD (i - 1) default).path (m.parts.getD i default).path)) (some 0) (some 1) rfl (by omega) ?_ ?_]
    · have hiff := adj_iff m.parts partB
      by_cases h : m.parts.all partB = true ∧ risesP m.parts
      · rw [if_pos (hiff.2 h), if_pos (show manB m from ⟨hn, h6, h.1, h.2⟩)]
      · rw [if_neg fun h2 => h (hiff.1 h2), if_neg fun h2 : manB m => h ⟨h2.2.2.1, h2.2.2.2⟩]
    · intro rec i hi
      simp only [manifest_Check.l2]
      rw [if_t (lt_t hi), ix_lt hi, bd_mk, part_eq, bd_mk, test_eq m.parts i hi (by omega)]
      simp only [List.getD_eq_getElem?_getD, List.getElem?_eq_getElem hi, Option.getD_some]
      cases hN : partB m.parts[i] with
      | false => simp
      | true =>
        by_cases h0 : 0 < i
        · have hi' : i - 1 < m.parts.length := by omega
          have h0' : (0 : Int) < (i : Int) := by omega
          simp only [h0, h0', and_self, if_true, List.getElem?_eq_getElem hi', Option.getD_some, decide_true, Bool.not_true, Bool.false_or, Bool.true_and, wr_succ (show i < 4611686018427387904 by omega)]
          have hg := gtr_eq m.parts[i].path m.parts[i - 1].path
          cases hc : (sLt m.parts[i].path m.parts[i - 1].path || m.parts[i].path == m.parts[i - 1].path) with
          | true => rw [hc] at hg; rw [← hg]; rfl
          | false => rw [hc] at hg; rw [← hg]; rfl
        · have h0' : ¬ (0 : Int) < (i : Int) := by omega
          simp [h0, h0', wr_succ (show i < 4611686018427387904 by omega)]
    · intro rec
      simp only [manifest_Check.l2, manifest_Check.k1]
      rw [if_f (lt_f (Nat.lt_irrefl _))]
  · rw [if_pos (by
      simp only [Bool.or_eq_true, decide_eq_true_eq, Bool.not_eq_true']
      cases hn : nameB m.name with
      | false => exact .inl rfl
      | true =>
        rcases Nat.lt_or_ge 6 m.parts.length with h6 | h6
        · right; omega
        · exact absurd ⟨hn, h6⟩ h0), if_neg fun h : manB m => h0 ⟨h.1, h.2.1⟩]
/-- two bytes of a number -/
def be2 (n : Int) : List UInt8 := [toB8 (n / 256), toB8 n]
theorem shr0 (n : Int) : shrI n 0 = some n := by simp [shrI]
theorem put2_eq (b : List UInt8) (n : Int) (h0 : 0 ≤ n) (h1 : n < 65536) (hb : b.length ≤ 1000000000) : bin_Put b n 2 = some (b ++ be2 n, 0) := by
  unfold bin_Put
  have hr : bin_room 2 = some 65536 := by decide +kernel
  rw [only_t (by simp; omega), hr, bd_mk, if_neg (by simp; omega), cloneB_eq b (by omega), bd_mk]
  show loop (bin_Put.l2 n) (((1 : Nat) : Int), b) = _
  have e : ∀ rec, bin_Put.l2 n rec (((1 : Nat) : Int), b) = rec (0, b ++ [toB8 (n / 256)]) := fun rec => by
    simp only [bin_Put.l2]
    rw [if_pos (by decide), show wr (8 * ((1 : Nat) : Int)) = 8 from by decide, show shrI n 8 = some (n / 256) from by simp [shrI], bd_mk, app_ok (by simp; omega), bd_mk, show wr (((1 : Nat) : Int) - 1) = 0 from by decide]
  have e2 : ∀ rec, bin_Put.l2 n rec (0, b ++ [toB8 (n / 256)]) = rec (-1, b ++ be2 n) := fun rec => by
    simp only [bin_Put.l2]
    rw [if_pos (by decide), show wr (8 * (0 : Int)) = 0 from by decide, shr0, bd_mk, app_ok (by simp; omega), bd_mk, show wr ((0 : Int) - 1) = -1 from by decide, List.append_assoc]; rfl
  have e3 : ∀ rec, bin_Put.l2 n rec (-1, b ++ be2 n) = some (b ++ be2 n, 0) := fun rec => by
    simp only [bin_Put.l2, bin_Put.k1]
    rw [if_neg (by decide)]
  show iter _ 4611686018427387904 _ = _
  show bin_Put.l2 n (iter _ 4611686018427387903) _ = _
  rw [e]
  show bin_Put.l2 n (iter _ 4611686018427387902) _ = _
  rw [e2]
  show bin_Put.l2 n (iter _ 4611686018427387901) _ = _
  rw [e3]
/-- a manifest's bytes -/
def partBytes (p : Part) : List UInt8 := ([toB8 (p.path.length : Int)] ++ p.path ++ be2 p.size ++ [toB8 (p.ids.length : Int)]) ++ p.ids.flatten
def manBytes (m : Manifest) : List UInt8 := ([toB8 (m.name.length : Int)] ++ m.name ++ [toB8 (m.parts.length : Int)]) ++ m.parts.flatMap partBytes
/-- what a claim's condition tells of ids -/
def okId (m : Manifest) : Prop := ∀ p ∈ m.parts, ∀ x ∈ p.ids, x.length = 32
theorem flat_len32 : ∀ (l : List (List UInt8)), (∀ x ∈ l, x.length = 32) → l.flatten.length = 32 * l.length
  | [], _ => rfl
  | x :: l, h => by
    have h1 := h x (by simp)
    have h2 := flat_len32 l fun y hy => h y (by simp [hy])
    simp only [List.flatten_cons, List.length_append, List.length_cons, h1, h2]; omega
theorem nameB_len {s : List UInt8} (h : nameB s = true) : 1 ≤ s.length ∧ s.length ≤ 20 := by
  simp only [nameB, Bool.and_eq_true, decide_eq_true_eq] at h; exact h.1
theorem partB_num {p : Part} (h : partB p = true) : nameB p.path = true ∧ 0 ≤ p.size ∧ p.size ≤ 200 ∧ p.ids.length ≤ 25 ∧ (p.ids.length = 0 ↔ p.size = 0) := by
  simp only [partB, Bool.and_eq_true, decide_eq_true_eq] at h
  obtain ⟨⟨⟨⟨h1, h2⟩, h3⟩, h4⟩, h5⟩ := h
  refine ⟨h1, h2, h3, h4, ?_⟩
  rw [beq_iff_eq, decide_eq_decide] at h5; exact h5
theorem partBytes_len {p : Part} (h : ∀ x ∈ p.ids, x.length = 32) : (partBytes p).length = 4 + p.path.length + 32 * p.ids.length := by
  simp only [partBytes, be2, List.length_append, List.length_cons, List.length_nil, flat_len32 p.ids h]; omega
theorem partsBytes_len : ∀ (l : List Part), (∀ p ∈ l, ∀ x ∈ p.ids, x.length = 32) → (∀ p ∈ l, p.path.length ≤ 20 ∧ p.ids.length ≤ 25) → (l.flatMap partBytes).length ≤ 824 * l.length
  | [], _, _ => by simp
  | p :: l, h, h2 => by
    have h3 := partsBytes_len l (fun q hq => h q (by simp [hq])) fun q hq => h2 q (by simp [hq])
    have h4 := partBytes_len (h p (by simp))
    have h5 := h2 p (by simp)
    simp only [List.flatMap_cons, List.length_append, List.length_cons, h4]; omega
theorem manB_parts {m : Manifest} (h : manB m) : ∀ p ∈ m.parts, partB p = true := by
  have := h.2.2.1; rwa [List.all_eq_true] at this
theorem manBytes_len {m : Manifest} (h : manB m) (hk : okId m) : (manBytes m).length ≤ 5000 := by
  have h1 := partsBytes_len m.parts hk fun p hp => by
    have h2 := partB_num (manB_parts h p hp); have h3 := nameB_len h2.1; exact ⟨h3.2, h2.2.2.2.1⟩
  have h2 := nameB_len h.1
  have h3 := h.2.1
  simp only [manBytes, List.length_append, List.length_cons, List.length_nil]; omega
theorem mbytes_eq (m : Manifest) (hk : okId m) : manifest_Bytes m = some (if manB m then (manBytes m, 0) else ([], 1)) := by
  unfold manifest_Bytes
  rw [mcheck_eq, bd_mk]
  by_cases h : manB m
  · rw [if_pos h, if_pos h, if_neg (by simp)]
    have hn := nameB_len h.1
    have h6 := h.2.1
    rw [app_ok (by simp; omega), bd_mk, app_ok (by simp; omega), bd_mk]
    have hlen := manBytes_len h hk
    refine loop_eq (S := List UInt8 × Int) (σ := List UInt8) (fun i l => (l, (i : Int))) m.parts.length (fun i l => l = ([toB8 (m.name.length : Int)] ++ m.name ++ [toB8 (m.parts.length : Int)]) ++ (m.parts.take i).flatMap partBytes) _ (i0 := 0) rfl (Nat.zero_le _) (by simp) (by omega) ?_ ?_
    · intro rec i l hi hI hrec
      simp only [manifest_Bytes.l2]
      have hp := partB_num (manB_parts h _ (List.getElem_mem hi))
      have hpn := nameB_len hp.1
      have hids := hk _ (List.getElem_mem hi)
      have hl : l.length + (partBytes m.parts[i]).length ≤ 5000 := by
        have : (([toB8 (m.name.length : Int)] ++ m.name ++ [toB8 (m.parts.length : Int)]) ++ (m.parts.take (i + 1)).flatMap partBytes).length ≤ 5000 := by
          refine Nat.le_trans ?_ hlen
          simp only [manBytes, List.length_append]
          have : (m.parts.flatMap partBytes).length = ((m.parts.take (i + 1)).flatMap partBytes).length + ((m.parts.drop (i + 1)).flatMap partBytes).length := by
            rw [← List.length_append, ← List.flatMap_append, List.take_append_drop]
          omega
        rw [take_snoc' hi, List.flatMap_append, ← List.append_assoc, ← hI] at this
        simpa using this
      rw [partBytes_len hids] at hl
      rw [if_t (lt_t hi), ix_lt hi, bd_mk, app_ok (by simp; omega), bd_mk, app_ok (by simp; omega), bd_mk, put2_eq _ _ hp.2.1 (by omega) (by simp; omega), bd_mk]
      simp only
      rw [app_ok (by simp [be2]; omega), bd_mk]
      generalize hQ : m.parts[i] = p at *
      refine loop_eq (S := Int × List UInt8) (σ := List UInt8) (fun j q => ((j : Int), q)) p.ids.length (fun j q => q = (l ++ ([toB8 (p.path.length : Int)] ++ p.path ++ be2 p.size ++ [toB8 (p.ids.length : Int)])) ++ (p.ids.take j).flatten) _ (i0 := 0) rfl (Nat.zero_le _) (by simp) (by omega) ?_ ?_
      · intro rec2 j q hj hJ hrec2
        simp only [manifest_Bytes.l4]
        have hx := hids _ (List.getElem_mem hj)
        have hft : ((p.ids.take j).flatten).length ≤ 32 * 25 := by
          rw [flat_len32 _ fun x hx => hids x (List.mem_of_mem_take hx)]; simp; omega
        rw [if_t (lt_t hj), ix_lt hj, bd_mk, app_ok (by rw [hJ]; simp only [List.length_append, List.length_cons, List.length_nil, be2, hx]; omega), bd_mk, wr_succ (by omega)]
        refine hrec2 _ ?_
        rw [hJ, take_snoc' hj]; simp only [List.flatten_append, List.flatten_cons, List.flatten_nil, List.append_nil, List.append_assoc]
      · intro rec2 q hJ
        simp only [manifest_Bytes.l4, manifest_Bytes.k3]
        rw [if_f (lt_f (Nat.lt_irrefl _)), wr_succ (by omega)]
        refine hrec _ ?_
        rw [hJ, hI, take_snoc' hi, hQ, List.take_length, List.flatMap_append]
        simp [partBytes]
    · intro rec l hI
      simp only [manifest_Bytes.l2, manifest_Bytes.k1]
      rw [if_f (lt_f (Nat.lt_irrefl _)), hI, List.take_length]; rfl
  · rw [if_neg h, if_neg h, if_pos (by simp)]
end Go.Wk.Lf
