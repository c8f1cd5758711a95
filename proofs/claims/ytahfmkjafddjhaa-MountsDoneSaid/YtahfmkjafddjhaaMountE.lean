/- What the page's Drives tells, plainly: the same. -/
import Derived.Test.YtahfmkjafddjhaaMountM
namespace Go.Wk.Lf
open Go.Shelf Go.Sort
set_option linter.unusedVariables false

/- steps of a loop, counted -/
def Runs {S A : Type} (F : (S → Option A) → S → Option A) (N : Nat) (s : S) (r : Option A) : Prop := ∀ n, N ≤ n → iter F n s = r
theorem Runs.step {S A : Type} {F : (S → Option A) → S → Option A} {N : Nat} {s s' : S} {r : Option A} (h : ∀ rec, F rec s = rec s') (k : Runs F N s' r) : Runs F (N + 1) s r := fun n hn => by
  cases n with
  | zero => omega
  | succ n => show F (iter F n) s = r; rw [h]; exact k n (by omega)
theorem Runs.last {S A : Type} {F : (S → Option A) → S → Option A} {s : S} {r : Option A} (h : ∀ rec, F rec s = r) : Runs F 1 s r := fun n hn => by
  cases n with
  | zero => omega
  | succ n => exact h (iter F n)
theorem Runs.loop {S A : Type} {F : (S → Option A) → S → Option A} {N : Nat} {s : S} {r : Option A} (k : Runs F N s r) (h : N ≤ 4611686018427387904) : Go.Wk.loop F s = r := k _ h

theorem ref_read (l : List Read) (out : List Move) (dn : List Bool) (used held : List Int) (i k : Nat) (hl : l.length ≤ 32768) (hh : held.length ≤ 4) (hd : dn.length = l.length) (ho : out.length ≤ 100000000) (hk : k < l.length) (hi : i < held.length)
    (hnd : dn[k]? = some false) (hv : 0 ≤ held[i]) (hvk : l[k].loc.vol = held[i]) (hb : ∀ (j : Nat) (r : Read), j < k → dn[j]? = some false → l[j]? = some r → r.loc.vol ≠ held[i])
    (hdr : ∀ (i' : Nat) (v' : Int) (j : Nat) (r : Read), i' < i → held[i']? = some v' → dn[j]? = some false → l[j]? = some r → v' < 0 ∨ r.loc.vol ≠ v') (rec : List Move × List Bool × List Int × List Int → Option (List Move × Int)) :
    cellarerref20_Drives.l3 l rec (out, dn, used, held) = rec (out ++ [Move.mk 2 (i : Int) held[i] l[k].loc], dn.set k true, used, held) := by
  simp only [cellarerref20_Drives.l3]
  have hkd : k < dn.length := by omega
  have fin : ∀ f : Int, cellarerref20_Drives.k5 l out dn used held rec f (i : Int) (k : Int) = rec (out ++ [Move.mk 2 (i : Int) held[i] l[k].loc], dn.set k true, used, held) := by
    intro f
    simp only [cellarerref20_Drives.k5]
    rw [if_t (decide_eq_true (by omega)), ix_lt hkd, bd_mk, ix_lt hi, bd_mk, ix_lt hk, bd_mk, app_ok (by simp; omega), bd_mk, Int.toNat_natCast]
  have go : ∀ f : Int, 0 ≤ f → cellarerref20_Drives.k4 l out dn used held rec f = rec (out ++ [Move.mk 2 (i : Int) held[i] l[k].loc], dn.set k true, used, held) := by
    intro f hf
    simp only [cellarerref20_Drives.k4]
    rw [if_f (decide_eq_false (by omega))]
    refine loop_eq (S := Int × Int × Int) (σ := Int × Int) (fun i' s => (s.1, s.2, (i' : Int))) held.length (fun i' s => (s = (-1, -1) ∧ i' ≤ i) ∨ s = ((i : Int), (k : Int))) _ (i0 := 0) (s0 := (-1, -1)) rfl (Nat.zero_le _) (.inl ⟨rfl, by omega⟩) (by omega) ?_ ?_
    · rintro rec2 i' s hi' hs hrec
      simp only [cellarerref20_Drives.l9]
      rcases hs with ⟨rfl, hii⟩ | rfl
      · rw [show (decide ((i' : Int) < (held.length : Int)) && decide ((-1 : Int) < 0)) = true by rw [lt_t hi']; rfl, if_t (by rfl)]
        refine loop_eq (S := Int × Int × Int) (σ := Int × Int) (fun j s => (s.1, s.2, (j : Int))) l.length (fun j s => (s = (-1, -1) ∧ (i' = i → j ≤ k)) ∨ (s = ((i : Int), (k : Int)) ∧ i' = i)) _ (i0 := 0) (s0 := (-1, -1)) rfl (Nat.zero_le _) (.inl ⟨rfl, fun _ => by omega⟩) (by omega) ?_ ?_
        · rintro rec3 j s hj hs hrec3
          simp only [cellarerref20_Drives.l11]
          rcases hs with ⟨rfl, hjk⟩ | ⟨rfl, rfl⟩
          · have hjd : j < dn.length := by omega
            rw [show (decide ((j : Int) < (l.length : Int)) && decide ((-1 : Int) < 0)) = true by rw [lt_t hj]; rfl, if_t (by rfl), ix_lt hjd, bd_mk]
            cases hdj : dn[j] with
            | true =>
              simp only [Bool.not_true, Bool.false_and]
              simp only [only_f, bd_mk]
              rw [if_f (by rfl)]
              simp only [cellarerref20_Drives.k12]
              rw [wr_succ (by omega)]
              refine hrec3 (-1, -1) (.inl ⟨rfl, fun e => ?_⟩)
              have h1 := hjk e
              have : j ≠ k := fun e2 => by subst e2; rw [List.getElem?_eq_getElem hjd, hdj] at hnd; cases hnd
              omega
            | false =>
              simp only [Bool.not_false, Bool.true_and]
              rw [only_t rfl, ix_lt hi', bd_mk]
              by_cases hn : 0 ≤ held[i']
              · rw [decide_eq_true hn]
                simp only [Bool.true_and]
                rw [only_t rfl, ix_lt hj, bd_mk, only_t rfl, bd_mk]
                by_cases he : l[j].loc.vol = held[i']
                · have hii2 : i' = i := by
                    rcases Nat.lt_or_ge i' i with h | h
                    · rcases hdr i' held[i'] j l[j] h (List.getElem?_eq_getElem hi') (by rw [List.getElem?_eq_getElem hjd, hdj]) (List.getElem?_eq_getElem hj) with h2 | h2
                      · omega
                      · exact absurd he h2
                    · omega
                  subst hii2
                  have hjk2 : j = k := by
                    rcases Nat.lt_or_ge j k with h | h
                    · exact absurd he (hb j l[j] h (by rw [List.getElem?_eq_getElem hjd, hdj]) (List.getElem?_eq_getElem hj))
                    · have := hjk rfl; omega
                  subst hjk2
                  rw [decide_eq_true he, if_t (by rfl)]
                  simp only [cellarerref20_Drives.k12]
                  rw [wr_succ (by omega)]
                  exact hrec3 ((i' : Int), (j : Int)) (.inr ⟨rfl, rfl⟩)
                · rw [decide_eq_false he, if_f (by rfl)]
                  simp only [cellarerref20_Drives.k12]
                  rw [wr_succ (by omega)]
                  refine hrec3 (-1, -1) (.inl ⟨rfl, fun e => ?_⟩)
                  have h1 := hjk e
                  have : j ≠ k := fun e2 => by subst e2; subst e; exact he hvk
                  omega
              · rw [decide_eq_false hn]
                simp only [Bool.false_and]
                simp only [only_f, bd_mk]
                rw [if_f (by rfl)]
                simp only [cellarerref20_Drives.k12]
                rw [wr_succ (by omega)]
                refine hrec3 (-1, -1) (.inl ⟨rfl, fun e => ?_⟩)
                subst e; exact absurd hv hn
          · rw [show (decide ((j : Int) < (l.length : Int)) && decide ((i' : Int) < 0)) = false by rw [show decide ((i' : Int) < 0) = false from decide_eq_false (by omega), Bool.and_false], if_f (by rfl)]
            simp only [cellarerref20_Drives.k10]
            rw [wr_succ (by omega)]
            exact hrec ((i' : Int), (k : Int)) (.inr rfl)
        · rintro rec3 s hs
          simp only [cellarerref20_Drives.l11]
          rw [show decide ((l.length : Int) < (l.length : Int)) = false from lt_f (Nat.lt_irrefl _), Bool.false_and, if_f (by rfl)]
          simp only [cellarerref20_Drives.k10]
          rw [wr_succ (by omega)]
          rcases hs with ⟨rfl, hjk⟩ | ⟨rfl, rfl⟩
          · refine hrec (-1, -1) (.inl ⟨rfl, ?_⟩)
            have : i' ≠ i := fun e => by have := hjk e; omega
            omega
          · exact hrec ((i' : Int), (k : Int)) (.inr rfl)
      · rw [show (decide ((i' : Int) < (held.length : Int)) && decide ((i : Int) < 0)) = false by rw [show decide ((i : Int) < 0) = false from decide_eq_false (by omega), Bool.and_false], if_f (by rfl)]
        exact fin f
    · rintro rec2 s hs
      simp only [cellarerref20_Drives.l9]
      rw [show decide ((held.length : Int) < (held.length : Int)) = false from lt_f (Nat.lt_irrefl _), Bool.false_and, if_f (by rfl)]
      rcases hs with ⟨rfl, hii⟩ | rfl
      · omega
      · exact fin f
  refine loop_eq (S := Int × Int) (σ := Int) (fun j s => (s, (j : Int))) l.length (fun j s => (s = -1 ∧ j ≤ k) ∨ 0 ≤ s) _ (i0 := 0) (s0 := -1) rfl (Nat.zero_le _) (.inl ⟨rfl, by omega⟩) (by omega) ?_ ?_
  · rintro rec2 j s hj hs hrec
    simp only [cellarerref20_Drives.l13]
    rcases hs with ⟨rfl, hjk⟩ | hs
    · have hjd : j < dn.length := by omega
      rw [show (decide ((j : Int) < (l.length : Int)) && decide ((-1 : Int) < 0)) = true by rw [lt_t hj]; rfl, if_t (by rfl), ix_lt hjd, bd_mk]
      simp only [cellarerref20_Drives.k14]
      rw [wr_succ (by omega)]
      cases hdj : dn[j] with
      | true =>
        rw [if_f (by rfl)]
        refine hrec (-1) (.inl ⟨rfl, ?_⟩)
        have : j ≠ k := fun e2 => by subst e2; rw [List.getElem?_eq_getElem hjd, hdj] at hnd; cases hnd
        omega
      | false => rw [if_t (by rfl)]; exact hrec (j : Int) (.inr (by omega))
    · rw [show (decide ((j : Int) < (l.length : Int)) && decide (s < 0)) = false by rw [show decide (s < 0) = false from decide_eq_false (by omega), Bool.and_false], if_f (by rfl)]
      exact go s hs
  · rintro rec2 s hs
    simp only [cellarerref20_Drives.l13]
    rw [show decide ((l.length : Int) < (l.length : Int)) = false from lt_f (Nat.lt_irrefl _), Bool.false_and, if_f (by rfl)]
    rcases hs with ⟨rfl, hjk⟩ | hs
    · omega
    · exact go s hs

theorem ref_done (l : List Read) (out : List Move) (dn : List Bool) (used held : List Int) (hl : l.length ≤ 32768) (hd : dn.length = l.length) (hall : ∀ (j : Nat) (h : j < dn.length), dn[j] = true) (rec : List Move × List Bool × List Int × List Int → Option (List Move × Int)) :
    cellarerref20_Drives.l3 l rec (out, dn, used, held) = some (out, 0) := by
  simp only [cellarerref20_Drives.l3]
  refine loop_eq (S := Int × Int) (σ := Unit) (fun j _ => (-1, (j : Int))) l.length (fun _ _ => True) _ (i0 := 0) (s0 := ()) rfl (Nat.zero_le _) trivial (by omega) ?_ ?_
  · rintro rec2 j s hj _ hrec
    simp only [cellarerref20_Drives.l13]
    have hjd : j < dn.length := by omega
    rw [show (decide ((j : Int) < (l.length : Int)) && decide ((-1 : Int) < 0)) = true by rw [lt_t hj]; rfl, if_t (by rfl), ix_lt hjd, bd_mk, hall j hjd]
    simp only [cellarerref20_Drives.k14]
    rw [if_f (by rfl), wr_succ (by omega)]
    exact hrec () trivial
  · rintro rec2 s _
    simp only [cellarerref20_Drives.l13, cellarerref20_Drives.k4]
    rw [show decide ((l.length : Int) < (l.length : Int)) = false from lt_f (Nat.lt_irrefl _), Bool.false_and, if_f (by rfl), if_t (by rfl)]

theorem ref_mount (l : List Read) (out : List Move) (dn : List Bool) (used held : List Int) (f : Nat) (hl : l.length ≤ 32768) (hh : held.length ≤ 4) (h0 : 0 < held.length) (hu : used.length = held.length) (hd : dn.length = l.length) (ho : out.length ≤ 100000000) (hf : f < l.length)
    (hnd : dn[f]? = some false) (hb : ∀ (j : Nat) (h : j < dn.length), j < f → dn[j] = true)
    (hdr : ∀ (i' : Nat) (v' : Int) (j : Nat) (r : Read), held[i']? = some v' → dn[j]? = some false → l[j]? = some r → v' < 0 ∨ r.loc.vol ≠ v') (rec : List Move × List Bool × List Int × List Int → Option (List Move × Int)) :
    cellarerref20_Drives.l3 l rec (out, dn, used, held) = rec (out ++ [Move.mk 1 (freeI held used : Int) l[f].loc.vol (Loc.mk 0 0 0 0)], dn, used.set (freeI held used) ((out.length : Int) + 1), held.set (freeI held used) l[f].loc.vol) := by
  simp only [cellarerref20_Drives.l3]
  have hfd : f < dn.length := by omega
  have hfi : freeI held used < held.length := freeI_lt h0
  have fin : cellarerref20_Drives.k5 l out dn used held rec (f : Int) (-1) (-1) = rec (out ++ [Move.mk 1 (freeI held used : Int) l[f].loc.vol (Loc.mk 0 0 0 0)], dn, used.set (freeI held used) ((out.length : Int) + 1), held.set (freeI held used) l[f].loc.vol) := by
    simp only [cellarerref20_Drives.k5]
    rw [if_f (by rfl)]
    refine loop_eq (S := Int × Int) (σ := Nat) (fun i b => ((b : Int), (i : Int))) held.length (fun i b => ∃ h : b < held.length, (if held[b] < 0 then b else freeL ((held.zip used).drop i) i (used[b]'(by omega), b)) = freeI held used) _ (i0 := 1) (s0 := 0) rfl h0 ⟨h0, ?_⟩ (by omega) ?_ ?_
    · have hz : 0 < (held.zip used).length := by rw [List.length_zip]; omega
      have key : ∀ (a : List Int) (h : 0 < a.length), a[0] = a.headD 0 := fun a h => by
        cases a with
        | nil => simp at h
        | cons x r => rfl
      have e : held.zip used = (held[0], used[0]'(by omega)) :: (held.zip used).drop 1 := by
        conv => lhs; rw [← List.drop_zero (l := held.zip used), List.drop_eq_getElem_cons hz]
        simp
      unfold freeI
      conv => rhs; rw [e]
      rw [freeL, ← key used (by omega)]
      simp
    · rintro rec2 i b hi ⟨hb', hI⟩ hrec
      have hd' : (held.zip used).drop i = (held[i], used[i]'(by omega)) :: (held.zip used).drop (i + 1) := by
        rw [List.drop_eq_getElem_cons (by rw [List.length_zip]; omega)]; simp
      simp only [cellarerref20_Drives.l7]
      rw [if_t (lt_t hi), ix_lt hb', bd_mk]
      by_cases hn : held[b] < 0
      · rw [if_pos hn] at hI
        rw [show decide (0 ≤ held[b]) = false from decide_eq_false (by omega)]
        simp only [Bool.false_and]
        simp only [only_f, bd_mk]
        rw [if_f (by rfl)]
        simp only [cellarerref20_Drives.k8]
        rw [wr_succ (by omega)]
        exact hrec b ⟨hb', by rw [if_pos hn]; exact hI⟩
      · rw [if_neg hn, hd', freeL] at hI
        rw [show decide (0 ≤ held[b]) = true from decide_eq_true (by omega)]
        simp only [Bool.true_and]
        rw [only_t rfl, ix_lt hi, bd_mk]
        by_cases hn2 : held[i] < 0
        · rw [if_pos hn2] at hI
          rw [decide_eq_true hn2]
          simp only [Bool.not_true, Bool.true_or]
          simp only [only_f, bd_mk]
          rw [if_pos trivial]
          simp only [cellarerref20_Drives.k8]
          rw [wr_succ (by omega)]
          exact hrec i ⟨hi, by rw [if_pos hn2]; exact hI⟩
        · rw [if_neg hn2] at hI
          rw [decide_eq_false hn2]
          simp only [Bool.not_false, Bool.false_or]
          rw [only_t rfl, ix_lt (show i < used.length by omega), bd_mk, only_t rfl, ix_lt (show b < used.length by omega), bd_mk]
          by_cases hc : used[i]'(by omega) < used[b]'(by omega)
          · rw [if_pos hc] at hI
            rw [if_t (decide_eq_true hc)]
            simp only [cellarerref20_Drives.k8]
            rw [wr_succ (by omega)]
            exact hrec i ⟨hi, by rw [if_neg hn2]; exact hI⟩
          · rw [if_neg hc] at hI
            rw [if_f (decide_eq_false hc)]
            simp only [cellarerref20_Drives.k8]
            rw [wr_succ (by omega)]
            exact hrec b ⟨hb', by rw [if_neg hn]; exact hI⟩
    · rintro rec2 b ⟨hb', hI⟩
      simp only [cellarerref20_Drives.l7, cellarerref20_Drives.k6]
      have hbf : b = freeI held used := by
        rw [← hI]
        split
        · rfl
        · rw [List.drop_eq_nil_of_le (by rw [List.length_zip]; omega), freeL]
      subst hbf
      rw [if_f (lt_f (Nat.lt_irrefl _)), ix_lt hf, bd_mk, ix_lt hb', bd_mk, ix_lt (show freeI held used < used.length by omega), bd_mk, Int.toNat_natCast, ix_lt (show freeI held used < (held.set (freeI held used) l[f].loc.vol).length by simpa using hb'), bd_mk, app_ok (by simp; omega), bd_mk, wr_id (by omega) (by omega)]
      simp
  have go : cellarerref20_Drives.k4 l out dn used held rec (f : Int) = rec (out ++ [Move.mk 1 (freeI held used : Int) l[f].loc.vol (Loc.mk 0 0 0 0)], dn, used.set (freeI held used) ((out.length : Int) + 1), held.set (freeI held used) l[f].loc.vol) := by
    simp only [cellarerref20_Drives.k4]
    rw [if_f (decide_eq_false (by omega))]
    refine loop_eq (S := Int × Int × Int) (σ := Unit) (fun i' _ => (-1, -1, (i' : Int))) held.length (fun _ _ => True) _ (i0 := 0) (s0 := ()) rfl (Nat.zero_le _) trivial (by omega) ?_ ?_
    · rintro rec2 i' _ hi' _ hrec
      simp only [cellarerref20_Drives.l9]
      rw [show (decide ((i' : Int) < (held.length : Int)) && decide ((-1 : Int) < 0)) = true by rw [lt_t hi']; rfl, if_t (by rfl)]
      refine loop_eq (S := Int × Int × Int) (σ := Unit) (fun j _ => (-1, -1, (j : Int))) l.length (fun _ _ => True) _ (i0 := 0) (s0 := ()) rfl (Nat.zero_le _) trivial (by omega) ?_ ?_
      · rintro rec3 j _ hj _ hrec3
        simp only [cellarerref20_Drives.l11]
        have hjd : j < dn.length := by omega
        rw [show (decide ((j : Int) < (l.length : Int)) && decide ((-1 : Int) < 0)) = true by rw [lt_t hj]; rfl, if_t (by rfl), ix_lt hjd, bd_mk]
        have step : cellarerref20_Drives.k12 (j : Int) rec3 (-1) (-1) = rec (out ++ [Move.mk 1 (freeI held used : Int) l[f].loc.vol (Loc.mk 0 0 0 0)], dn, used.set (freeI held used) ((out.length : Int) + 1), held.set (freeI held used) l[f].loc.vol) := by
          simp only [cellarerref20_Drives.k12]
          rw [wr_succ (by omega)]
          exact hrec3 () trivial
        cases hdj : dn[j] with
        | true =>
          simp only [Bool.not_true, Bool.false_and]
          simp only [only_f, bd_mk]
          rw [if_f (by rfl)]
          exact step
        | false =>
          simp only [Bool.not_false, Bool.true_and]
          rw [only_t rfl, ix_lt hi', bd_mk]
          by_cases hn : 0 ≤ held[i']
          · rw [decide_eq_true hn]
            simp only [Bool.true_and]
            rw [only_t rfl, ix_lt hj, bd_mk, only_t rfl, bd_mk]
            have he : ¬ l[j].loc.vol = held[i'] := fun e => by
              rcases hdr i' held[i'] j l[j] (List.getElem?_eq_getElem hi') (by rw [List.getElem?_eq_getElem hjd, hdj]) (List.getElem?_eq_getElem hj) with h2 | h2
              · omega
              · exact h2 e
            rw [decide_eq_false he, if_f (by rfl)]
            exact step
          · rw [decide_eq_false hn]
            simp only [Bool.false_and]
            simp only [only_f, bd_mk]
            rw [if_f (by rfl)]
            exact step
      · rintro rec3 _ _
        simp only [cellarerref20_Drives.l11, cellarerref20_Drives.k10]
        rw [show decide ((l.length : Int) < (l.length : Int)) = false from lt_f (Nat.lt_irrefl _), Bool.false_and, if_f (by rfl), wr_succ (by omega)]
        exact hrec () trivial
    · rintro rec2 _ _
      simp only [cellarerref20_Drives.l9]
      rw [show decide ((held.length : Int) < (held.length : Int)) = false from lt_f (Nat.lt_irrefl _), Bool.false_and, if_f (by rfl)]
      exact fin
  refine loop_eq (S := Int × Int) (σ := Int) (fun j s => (s, (j : Int))) l.length (fun j s => (s = -1 ∧ j ≤ f) ∨ s = (f : Int)) _ (i0 := 0) (s0 := -1) rfl (Nat.zero_le _) (.inl ⟨rfl, by omega⟩) (by omega) ?_ ?_
  · rintro rec2 j s hj hs hrec
    simp only [cellarerref20_Drives.l13]
    rcases hs with ⟨rfl, hjk⟩ | rfl
    · have hjd : j < dn.length := by omega
      rw [show (decide ((j : Int) < (l.length : Int)) && decide ((-1 : Int) < 0)) = true by rw [lt_t hj]; rfl, if_t (by rfl), ix_lt hjd, bd_mk]
      simp only [cellarerref20_Drives.k14]
      rw [wr_succ (by omega)]
      by_cases e : j = f
      · subst e
        rw [List.getElem?_eq_getElem hjd] at hnd
        rw [Option.some.inj hnd, if_t (by rfl)]
        exact hrec (j : Int) (.inr rfl)
      · rw [hb j hjd (by omega), if_f (by rfl)]
        exact hrec (-1) (.inl ⟨rfl, by omega⟩)
    · rw [show (decide ((j : Int) < (l.length : Int)) && decide ((f : Int) < 0)) = false by rw [show decide ((f : Int) < 0) = false from decide_eq_false (by omega), Bool.and_false], if_f (by rfl)]
      exact go
  · rintro rec2 s hs
    simp only [cellarerref20_Drives.l13]
    rw [show decide ((l.length : Int) < (l.length : Int)) = false from lt_f (Nat.lt_irrefl _), Bool.false_and, if_f (by rfl)]
    rcases hs with ⟨rfl, hjk⟩ | rfl
    · omega
    · exact go
end Go.Wk.Lf
