/- What manifest.Ids tells, plainly. -/
import Derived.Test.YtoanecpanckkeaaManP
import Derived.Test.YtoanecpanckkeaaLst
import Derived.Test.YtoanecpanckkeaaLfM3
namespace Go.Wk.Lf
open Go.Shelf Go.Sort Go.Proofs
set_option linter.unusedVariables false
set_option linter.unusedSimpArgs false
theorem ixp_lt {α : Type} {l : List α} {a n k : Nat} (hk : k < n) (h : a + k < l.length) : ixp l a n (k : Int) = some l[a + k] := by
  show (if k < n then l[a + k]? else none) = _
  rw [if_pos hk]; exact List.getElem?_eq_getElem h
theorem compactI_eq (xs : List (List UInt8)) (hl : xs.length ≤ 1073741824) : slices_Compact_32_byte_32_byte xs = some (compactL xs) := by
  unfold slices_Compact_32_byte_32_byte
  by_cases h2 : xs.length < 2
  · rw [if_t (decide_eq_true (by omega)), compactL_one _ h2]
  · rw [if_f (decide_eq_false (by omega))]
    refine loop_eq (S := Int) (σ := Unit) (fun i _ => (i : Int)) xs.length (fun i _ => 1 ≤ i ∧ compactL (xs.take i) = xs.take i) _ (i0 := 1) (s0 := ()) rfl (by omega) ⟨by omega, compactL_one _ (by simp; omega)⟩ (by omega) ?_ ?_
    · intro rec i _ hi hI hrec
      obtain ⟨h1, hc⟩ := hI
      simp only [slices_Compact_32_byte_32_byte.l2, slices_Compact_32_byte_32_byte.k3]
      rw [if_t (lt_t hi), ix_lt hi, bd_mk, wr_pred (by omega) (by omega), ix_lt (show i - 1 < xs.length by omega), bd_mk]
      have hst := compactL_step (l := xs) (j := i - 1) (a := xs[i - 1]) (b := xs[i]) (List.getElem?_eq_getElem (by omega)) (by rw [show i - 1 + 1 = i by omega]; exact List.getElem?_eq_getElem hi)
      rw [show i - 1 + 2 = i + 1 by omega, show i - 1 + 1 = i by omega, hc] at hst
      by_cases he : xs[i] = xs[i - 1]
      · rw [if_t (decide_eq_true he), cut_ok (by omega) (by omega) (by omega), bd_mk]
        rw [if_pos he.symm] at hst
        refine loop_eq (S := Int × Int × List (List UInt8)) (σ := Nat × List (List UInt8)) (fun k s => ((s.1 : Int), (k : Int), s.2)) (xs.length - i) (fun k s => s.2.length = xs.length ∧ 1 ≤ k ∧ 1 ≤ s.1 ∧ s.1 ≤ i + k - 1 ∧ s.2.take s.1 = compactL (xs.take (i + k)) ∧ ∀ q, i + k - 1 ≤ q → s.2[q]? = xs[q]?) _ (i0 := 1) (s0 := (i, xs)) rfl (by omega) ⟨rfl, by omega, by omega, by simp, hst.symm, fun q _ => rfl⟩ (by omega) ?_ ?_
        · rintro rec2 k ⟨w, cs⟩ hk ⟨e1, e2, e3, e4, e5, e6⟩ hrec2
          simp only at e1 e3 e4 e5 e6
          simp only [slices_Compact_32_byte_32_byte.l5, slices_Compact_32_byte_32_byte.k6, Int.toNat_natCast]
          have hck : i + k < cs.length := by omega
          have hg1 : cs[i + k] = xs[i + k] := by have := e6 (i + k) (by omega); rw [List.getElem?_eq_getElem hck, List.getElem?_eq_getElem (by omega)] at this; exact Option.some.inj this
          have hg2 : cs[i + (k - 1)] = xs[i + (k - 1)] := by have := e6 (i + (k - 1)) (by omega); rw [List.getElem?_eq_getElem (by omega), List.getElem?_eq_getElem (by omega)] at this; exact Option.some.inj this
          have hst2 := compactL_step (l := xs) (j := i + (k - 1)) (a := xs[i + (k - 1)]) (b := xs[i + k]) (List.getElem?_eq_getElem (by omega)) (by rw [show i + (k - 1) + 1 = i + k by omega]; exact List.getElem?_eq_getElem (by omega))
          rw [show i + (k - 1) + 2 = i + (k + 1) by omega, show i + (k - 1) + 1 = i + k by omega, ← e5] at hst2
          rw [if_t (lt_t hk), ixp_lt hk hck, bd_mk, wr_pred (by omega) (by omega), ixp_lt (show k - 1 < xs.length - i by omega) (by omega), bd_mk, hg1, hg2]
          by_cases hne : xs[i + k] = xs[i + (k - 1)]
          · rw [if_f (by simp [hne]), wr_succ (by omega)]
            rw [if_pos hne.symm] at hst2
            exact hrec2 (w, cs) ⟨e1, by omega, e3, by simp only; omega, hst2.symm, fun q hq => e6 q (by omega)⟩
          · rw [if_t (by simp [hne]), bd_mk, ix_lt (show w < cs.length by omega), bd_mk, wr_succ (by omega), wr_succ (by omega)]
            rw [if_neg (fun h => hne h.symm)] at hst2
            refine hrec2 (w + 1, cs.set w xs[i + k]) ⟨by simp [e1], by omega, by simp, by simp only; omega, ?_, fun q hq => ?_⟩
            · simp only; rw [take_set_succ _ (by omega), hst2]
            · simp only; rw [List.getElem?_set_ne (by omega)]; exact e6 q (by omega)
        · rintro rec2 ⟨w, cs⟩ ⟨e1, e2, e3, e4, e5, e6⟩
          simp only at e1 e3 e4 e5 e6
          simp only [slices_Compact_32_byte_32_byte.l5, slices_Compact_32_byte_32_byte.k4, Int.toNat_natCast]
          rw [if_f (lt_f (Nat.lt_irrefl _)), cut_ok (by omega) (by omega) (by omega), bd_mk]
          rw [show clr cs w (cs.length - w) (List.replicate 32 0) = some (cs.take w ++ List.replicate (cs.length - w) (List.replicate 32 0)) from if_pos (by omega), bd_mk]
          rw [cut_ok (by omega) (by omega) (by simp; omega), bd_mk]
          congr 1
          simp only [Int.toNat_natCast, Int.toNat_zero, List.drop_zero]
          rw [List.take_append_of_le_length (by simp; omega), List.take_take, Nat.min_self, e5, show i + (xs.length - i) = xs.length by omega, List.take_length]
      · rw [if_f (decide_eq_false he), wr_succ (by omega)]
        rw [if_neg (fun h => he h.symm)] at hst
        exact hrec () ⟨by omega, by rw [hst, take_snoc' hi]⟩
    · intro rec _ hI
      simp only [slices_Compact_32_byte_32_byte.l2, slices_Compact_32_byte_32_byte.k1]
      rw [if_f (lt_f (Nat.lt_irrefl _))]
      have := hI.2
      rw [List.take_length] at this
      rw [this]
theorem mem_compactL {α : Type} [DecidableEq α] (l : List α) (x : α) : x ∈ compactL l ↔ x ∈ l := by
  refine snoc_ind (p := fun l => x ∈ compactL l ↔ x ∈ l) (by simp [compactL]) (fun l y ih => ?_) l
  rw [compactL_snoc]
  unfold cstep
  split
  · rename_i h
    rw [last_compactL] at h
    rw [ih]
    simp only [List.mem_append, List.mem_singleton]
    constructor
    · exact .inl
    · rintro (h' | rfl)
      · exact h'
      · exact List.mem_of_getLast? h
  · simp only [List.mem_append, List.mem_singleton, ih]
/-- strictly rising -/
def RisesS (l : List (List UInt8)) : Prop := l.Pairwise fun a b => sLt a b = true
theorem risesS_uniq : ∀ (a b : List (List UInt8)), RisesS a → RisesS b → (∀ x, x ∈ a ↔ x ∈ b) → a = b
  | [], [], _, _, _ => rfl
  | [], y :: b, _, _, h => by have := (h y).2 (by simp); simp at this
  | x :: a, [], _, _, h => by have := (h x).1 (by simp); simp at this
  | x :: a, y :: b, ha, hb, h => by
    obtain ⟨ha1, ha2⟩ := List.pairwise_cons.1 ha
    obtain ⟨hb1, hb2⟩ := List.pairwise_cons.1 hb
    have hxy : x = y := by
      rcases List.mem_cons.1 ((h x).1 (by simp)) with e | e
      · exact e
      · rcases List.mem_cons.1 ((h y).2 (by simp)) with e' | e'
        · exact e'.symm
        · have h1 := ha1 y e'
          have h2 := hb1 x e
          rw [sLt_asymm h1] at h2; cases h2
    subst hxy
    rw [risesS_uniq a b ha2 hb2 fun z => ?_]
    constructor
    · intro hz
      rcases List.mem_cons.1 ((h z).1 (by simp [hz])) with e | e
      · subst e; have := ha1 z hz; rw [sLt_irrefl] at this; cases this
      · exact e
    · intro hz
      rcases List.mem_cons.1 ((h z).2 (by simp [hz])) with e | e
      · subst e; have := hb1 z hz; rw [sLt_irrefl] at this; cases this
      · exact e
theorem rise_le {l : List (List UInt8)} (h : Rise cmpT l) : l.Pairwise fun a b => sLt b a = false := by
  refine h.imp fun {a b} h1 => ?_
  have := cmpT_lt b a
  unfold ltOf at this
  rw [← this]; simpa using h1
theorem compactL_rises (l : List (List UInt8)) (h : l.Pairwise fun a b => sLt b a = false) : RisesS (compactL l) := by
  revert h
  refine snoc_ind (p := fun l => (l.Pairwise fun a b => sLt b a = false) → RisesS (compactL l)) (fun _ => by simp [compactL, RisesS]) (fun l y ih h => ?_) l
  rw [List.pairwise_append] at h
  have h1 := ih h.1
  rw [compactL_snoc]
  unfold cstep
  split
  · exact h1
  · rename_i hl
    rw [last_compactL] at hl
    refine List.pairwise_append.2 ⟨h1, by simp, fun a ha b hb => ?_⟩
    simp at hb
    subst hb
    have ha' := (mem_compactL l a).1 ha
    have h2 := h.2.2 a ha' b (by simp)
    cases h3 : sLt a b with
    | true => rfl
    | false =>
      exfalso
      have e : a = b := sLt_tri h3 h2
      subst e
      -- it is the last one, then
      obtain ⟨s, t, hst⟩ := List.append_of_mem ha'
      cases t with
      | nil => rw [hst] at hl; simp at hl
      | cons z t =>
        have hz : ∃ w, l.getLast? = some w ∧ w ∈ z :: t := by
          rw [hst]
          refine ⟨(z :: t).getLast (by simp), ?_, List.getLast_mem _⟩
          rw [List.getLast?_append, List.getLast?_cons_cons, List.getLast?_eq_some_getLast (by simp : z :: t ≠ [])]; rfl
        obtain ⟨w, hw, hwm⟩ := hz
        have h4 : sLt w a = false := by
          have h5 := h.1
          rw [hst, List.pairwise_append] at h5
          exact (List.pairwise_cons.1 h5.2.1).1 w hwm
        have h6 := h.2.2 w (by rw [hst]; simp [hwm]) a (by simp)
        have e2 : w = a := sLt_tri h4 h6
        rw [e2] at hw
        exact hl hw
def idsOf (m : Manifest) : List (List UInt8) := m.parts.flatMap Part.ids
def idsU (l : List (List UInt8)) : List (List UInt8) := compactL (isort cmpT l)
theorem idsU_mem (l : List (List UInt8)) (x : List UInt8) : x ∈ idsU l ↔ x ∈ l := by
  unfold idsU; rw [mem_compactL]; exact (isort_perm cmpT l).mem_iff
theorem idsU_rises (l : List (List UInt8)) : RisesS (idsU l) := compactL_rises _ (rise_le (isort_rise cmpT_swo l))
theorem idsU_len (l : List (List UInt8)) : (idsU l).length ≤ l.length := by
  unfold idsU
  have h1 := compactL_len (isort cmpT l)
  rw [(isort_perm cmpT l).length_eq] at h1; exact h1
theorem cloneI_eq (l : List (List UInt8)) (hl : l.length ≤ 1073741824) : slices_Clone_32_byte_32_byte l = some l := by
  unfold slices_Clone_32_byte_32_byte
  rw [app_ok (by simpa using hl), bd_mk, List.nil_append]
theorem flatMap_take_le (l : List Part) (i : Nat) : ((l.take i).flatMap Part.ids).length ≤ (l.flatMap Part.ids).length := by
  conv => rhs; rw [← List.take_append_drop i l, List.flatMap_append, List.length_append]
  omega
theorem mids_eq (m : Manifest) (hp : m.parts.length ≤ 1073741824) (hl : (idsOf m).length ≤ 1073741824) : manifest_Ids m = some (idsU (idsOf m)) := by
  unfold manifest_Ids
  refine loop_eq (S := List (List UInt8) × Int) (σ := List (List UInt8)) (fun i l => (l, (i : Int))) m.parts.length (fun i l => l = (m.parts.take i).flatMap Part.ids) _ (i0 := 0) (s0 := []) rfl (Nat.zero_le _) rfl (by omega) ?_ ?_
  · intro rec i l hi hI hrec
    simp only [manifest_Ids.l2]
    have h1 := flatMap_take_le m.parts (i + 1)
    rw [take_snoc' hi, List.flatMap_append, ← hI] at h1
    simp only [List.flatMap_cons, List.flatMap_nil, List.append_nil, List.length_append] at h1
    unfold idsOf at hl
    rw [if_t (lt_t hi), ix_lt hi, bd_mk, app_ok (by omega), bd_mk, wr_succ (by omega)]
    refine hrec _ ?_
    rw [take_snoc' hi, List.flatMap_append, hI]; simp
  · intro rec l hI
    simp only [manifest_Ids.l2, manifest_Ids.k1]
    rw [if_f (lt_f (Nat.lt_irrefl _))]
    rw [List.take_length] at hI
    have hI' : l = idsOf m := hI
    subst hI'
    refine bdS_eq cmpT_swo hl fun l' hp' hr => ?_
    have hll := hp'.length_eq
    have h2 := compactL_len l'
    rw [compactI_eq _ (by omega), bd_mk, cloneI_eq _ (by omega), bd_mk]
    congr 1
    refine risesS_uniq _ _ (compactL_rises _ (rise_le hr)) (idsU_rises _) fun x => ?_
    rw [mem_compactL, hp'.mem_iff, idsU_mem]
end Go.Wk.Lf
