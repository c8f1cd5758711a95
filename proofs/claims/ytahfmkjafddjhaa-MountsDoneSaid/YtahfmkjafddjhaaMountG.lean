/- More on what mounts.Moves tells: the kinds of its moves. -/
import Derived.Test.YtahfmkjafddjhaaMountE
namespace Go.Wk.Lf
open Go.Shelf Go.Sort
set_option linter.unusedVariables false

def mountsOf (m : List Move) : List Int := (m.filter fun x => decide (x.kind = 1)).map Move.vol
def readsIn (m : List Move) : List Loc := (m.filter fun x => !decide (x.kind = 1)).map Move.loc
def Kinds (m : List Move) : Prop := ∀ x ∈ m, x.kind = 1 ∨ x.kind = 2
theorem mountsOf_app (a b : List Move) : mountsOf (a ++ b) = mountsOf a ++ mountsOf b := by simp [mountsOf]
theorem readsIn_app (a b : List Move) : readsIn (a ++ b) = readsIn a ++ readsIn b := by simp [readsIn]
theorem rdM_mounts (d v : Int) (l : List Read) : mountsOf (rdM d v l) = [] := by
  unfold mountsOf rdM
  rw [List.filter_map, List.map_map]
  have : (vr v l).filter ((fun x : Move => decide (x.kind = 1)) ∘ fun r => Move.mk 2 d v r.loc) = [] := List.filter_eq_nil_iff.2 fun r _ => by simp
  rw [this]; rfl
theorem rdM_reads (d v : Int) (l : List Read) : readsIn (rdM d v l) = (vr v l).map Read.loc := by
  unfold readsIn rdM
  rw [List.filter_map, List.map_map]
  have : (vr v l).filter ((fun x : Move => !decide (x.kind = 1)) ∘ fun r => Move.mk 2 d v r.loc) = vr v l := List.filter_eq_self.2 fun r _ => by simp
  rw [this]; rfl
theorem rdM_kinds (d v : Int) (l : List Read) : Kinds (rdM d v l) := fun x hx => by
  obtain ⟨r, _, rfl⟩ := List.mem_map.1 hx
  exact .inr rfl
theorem Kinds.app {a b : List Move} (ha : Kinds a) (hb : Kinds b) : Kinds (a ++ b) := fun x hx => (List.mem_append.1 hx).elim (ha x) (hb x)
theorem initM_kinds (l : List Read) (hs : List Int) : ∀ i, mountsOf (initM l hs i) = [] ∧ readsIn (initM l hs i) = (heldV hs).flatMap (fun v => (vr v l).map Read.loc) ∧ Kinds (initM l hs i) := by
  induction hs with
  | nil => intro i; exact ⟨rfl, rfl, fun x hx => by simp [initM] at hx⟩
  | cons v hs ih =>
    intro i
    obtain ⟨h1, h2, h3⟩ := ih (i + 1)
    unfold heldV at h2 ⊢
    simp only [initM]
    by_cases h : 0 ≤ v
    · rw [if_pos h, mountsOf_app, readsIn_app, rdM_mounts, rdM_reads, h1, h2, List.filter_cons_of_pos (by simpa using h), List.flatMap_cons]
      exact ⟨rfl, rfl, (rdM_kinds _ _ _).app h3⟩
    · rw [if_neg h, List.nil_append, h1, h2, List.filter_cons_of_neg (by simpa using h)]
      exact ⟨rfl, rfl, h3⟩
theorem restM_kinds (l : List Read) (vs : List Int) : ∀ h a n, mountsOf (restM l vs h a n) = vs ∧ readsIn (restM l vs h a n) = vs.flatMap (fun v => (vr v l).map Read.loc) ∧ Kinds (restM l vs h a n) := by
  induction vs with
  | nil => intro h a n; exact ⟨rfl, rfl, fun x hx => by simp [restM] at hx⟩
  | cons v vs ih =>
    intro h a n
    obtain ⟨h1, h2, h3⟩ := ih (h.set (freeI h a) v) (a.set (freeI h a) (n + 1)) (n + 1)
    have e : restM l (v :: vs) h a n = [Move.mk 1 (freeI h a : Int) v (Loc.mk 0 0 0 0)] ++ (rdM (freeI h a : Int) v l ++ restM l vs (h.set (freeI h a) v) (a.set (freeI h a) (n + 1)) (n + 1)) := rfl
    rw [e, mountsOf_app, mountsOf_app, readsIn_app, readsIn_app, rdM_mounts, rdM_reads, h1, h2]
    refine ⟨rfl, rfl, Kinds.app (fun x hx => ?_) ((rdM_kinds _ _ _).app h3)⟩
    simp at hx; subst hx; exact .inl rfl
theorem movesL_mounts (hs : List Int) (l : List Read) : mountsOf (movesL hs l) = newV hs l := by
  rw [movesL, mountsOf_app, (initM_kinds l hs 0).1, (restM_kinds l _ _ _ _).1]; rfl
theorem movesL_reads (hs : List Int) (l : List Read) : readsIn (movesL hs l) = (heldV hs ++ newV hs l).flatMap fun v => (vr v l).map Read.loc := by
  rw [movesL, readsIn_app, (initM_kinds l hs 0).2.1, (restM_kinds l _ _ _ _).2.1, List.flatMap_append]
theorem movesL_kinds (hs : List Int) (l : List Read) : Kinds (movesL hs l) := (initM_kinds l hs 0).2.2.app (restM_kinds l _ _ _ _).2.2
theorem count_eq (m : List Move) (k : Int) (hl : m.length ≤ 1073741824) : cellarerlaw22_count m k = some ((m.countP fun x => decide (x.kind = k) : Nat) : Int) := by
  unfold cellarerlaw22_count
  refine loop_eq (S := Int × Int) (σ := Unit) (fun i _ => (((m.take i).countP (fun x => decide (x.kind = k)) : Nat), (i : Int))) m.length (fun _ _ => True) _ (i0 := 0) (s0 := ()) rfl (Nat.zero_le _) trivial (by omega) ?_ ?_
  · intro rec i _ hi _ hrec
    simp only [cellarerlaw22_count.l2, cellarerlaw22_count.k3]
    have hr := hrec () trivial
    have hc := List.countP_le_length (p := fun x : Move => decide (x.kind = k)) (l := m.take i)
    rw [List.length_take] at hc
    rw [take_snoc' hi, List.countP_append] at hr
    rw [if_t (lt_t hi), ix_lt hi, bd_mk]
    by_cases he : m[i].kind = k
    · rw [if_t (decide_eq_true he), wr_succ (by omega), wr_succ (by omega)]
      simpa [he] using hr
    · rw [if_f (decide_eq_false he), wr_succ (by omega)]
      simpa [he] using hr
  · intro rec _ _
    simp only [cellarerlaw22_count.l2, cellarerlaw22_count.k1]
    rw [if_f (lt_f (Nat.lt_irrefl _)), List.take_length]
theorem count1 (hs : List Int) (l : List Read) : (movesL hs l).countP (fun x => decide (x.kind = 1)) = (newV hs l).length := by
  rw [← movesL_mounts, mountsOf, List.length_map, List.countP_eq_length_filter]
theorem count2 {hs : List Int} {l : List Read} (h : Apart hs) (hv : ∀ r ∈ l, 0 ≤ r.loc.vol) : (movesL hs l).countP (fun x => decide (x.kind = 2)) = l.length := by
  have h1 := count1 hs l
  have h2 := movesL_len h hv
  have h3 := filter_split (fun x : Move => decide (x.kind = 1)) (movesL hs l)
  have h4 : (movesL hs l).filter (fun x => !decide (x.kind = 1)) = (movesL hs l).filter (fun x => decide (x.kind = 2)) := List.filter_congr fun x hx => by
    rcases movesL_kinds hs l x hx with e | e <;> rw [e] <;> rfl
  rw [List.countP_eq_length_filter] at h1 ⊢
  rw [h4] at h3; omega
end Go.Wk.Lf
