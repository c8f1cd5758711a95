/- Sorting in lifted functions: a plain insertion sort, and that slices.SortFunc is it, where the order is total. -/
import Derived.Test.YtoanecpanckkeaaLop
import Derived.Test.YtoanecpanckkeaaSort
namespace Go.Wk
open Go.RowKit Go.Shelf Go.Sort Go.Lib Go.Proofs
set_option linter.unusedVariables false

section
variable {α : Type}
def ins (cf : α → α → Int) (x : α) : List α → List α
  | [] => [x]
  | y :: l => if cf x y < 0 then x :: y :: l else y :: ins cf x l
def isort (cf : α → α → Int) (l : List α) : List α := l.foldr (ins cf) []
theorem ins_perm (cf : α → α → Int) (x : α) (l : List α) : (ins cf x l).Perm (x :: l) := by
  induction l with
  | nil => exact List.Perm.refl _
  | cons y l ih =>
    unfold ins
    split
    · exact List.Perm.refl _
    · exact (List.Perm.cons y ih).trans (List.Perm.swap x y l)
theorem isort_perm (cf : α → α → Int) (l : List α) : (isort cf l).Perm l := by
  induction l with
  | nil => exact List.Perm.refl _
  | cons x l ih => exact (ins_perm cf x _).trans (List.Perm.cons x ih)
theorem isort_len (cf : α → α → Int) (l : List α) : (isort cf l).length = l.length := (isort_perm cf l).length_eq
theorem mem_isort {cf : α → α → Int} {l : List α} {x : α} : x ∈ isort cf l ↔ x ∈ l := (isort_perm cf l).mem_iff
/-- none stands ahead of a lesser one -/
def Rise (cf : α → α → Int) (l : List α) : Prop := l.Pairwise fun x y => ¬ cf y x < 0
theorem ins_rise {cf : α → α → Int} (hO : SWO (ltOf cf)) (x : α) (l : List α) (h : Rise cf l) : Rise cf (ins cf x l) := by
  induction l with
  | nil => simp [ins, Rise]
  | cons y l ih =>
    have h' := List.pairwise_cons.1 h
    unfold ins
    split
    · rename_i hxy
      refine List.pairwise_cons.2 ⟨fun z hz hzx => ?_, h⟩
      have e1 : ltOf cf x y = true := by simpa [ltOf] using hxy
      have e2 : ltOf cf z x = true := by simpa [ltOf] using hzx
      have e3 := hO.trans z x y e2 e1
      have e3' : cf z y < 0 := by simpa [ltOf] using e3
      rcases List.mem_cons.1 hz with rfl | hz
      · have := hO.irrefl z; rw [e3] at this; cases this
      · exact h'.1 z hz e3'
    · rename_i hxy
      refine List.pairwise_cons.2 ⟨fun z hz => ?_, ih h'.2⟩
      rcases List.mem_cons.1 ((ins_perm cf x l).mem_iff.1 hz) with rfl | hz
      · exact hxy
      · exact h'.1 z hz
theorem isort_rise {cf : α → α → Int} (hO : SWO (ltOf cf)) (l : List α) : Rise cf (isort cf l) := by
  induction l with
  | nil => exact List.Pairwise.nil
  | cons x l ih => exact ins_rise hO x _ ih
theorem rise_unique {cf : α → α → Int} (hT : ∀ x y, ltOf cf x y = false → ltOf cf y x = false → x = y) {a b : List α} (h1 : Rise cf a) (h2 : Rise cf b) (hp : a.Perm b) : a = b :=
  List.Perm.eq_of_pairwise (le := fun x y => ¬ cf y x < 0) (fun x y _ _ h3 h4 => hT x y (by simpa [ltOf] using h4) (by simpa [ltOf] using h3)) h1 h2 hp
theorem isort_eq {cf : α → α → Int} (hO : SWO (ltOf cf)) (hT : ∀ x y, ltOf cf x y = false → ltOf cf y x = false → x = y) (l : List α) : isort cf l = l.mergeSort fun x y => !(ltOf cf) y x := by
  refine rise_unique hT (isort_rise hO l) ?_ ((isort_perm cf l).trans (List.mergeSort_perm l _).symm)
  have := List.pairwise_mergeSort (le := fun x y => !(ltOf cf) y x) (fun a b c h1 h2 => ?_) (fun a b => ?_) l
  · refine List.Pairwise.imp (fun {x y} h => ?_) this
    simpa [ltOf] using h
  · simp only [Bool.not_eq_true'] at h1 h2 ⊢
    exact hO.ntrans c b a h2 h1
  · simp only [Bool.or_eq_true, Bool.not_eq_true']
    cases h1 : ltOf cf b a with
    | false => exact .inl rfl
    | true =>
      right
      cases h2 : ltOf cf a b with
      | false => rfl
      | true => have := hO.trans a b a h2 h1; rw [hO.irrefl] at this; cases this
def sortM (cf : α → α → Int) (l : List α) : Option (List α) := if l.length ≤ 1073741824 then some (isort cf l) else none
variable [Inhabited α]
theorem sort_row {P : Program} {ρ : Ren} (L : SlLaysF0.n6 P ρ) (t : Tr α) (aE : ∀ w, (isAgg (ρ.t 24)).run P w = .ok true w) (zE : ∀ w, (Go.sizeOf (ρ.t 24)).run P w = .ok t.size w) (enc : α → List Value) (hrel : ∀ F cs x, t.rel F cs x ↔ cs = enc x)
    (cf : α → α → Int) (hO : SWO (ltOf cf)) (hT : ∀ x y, (ltOf cf) x y = false → (ltOf cf) y x = false → x = y) (g : Nat) (eg : ∀ args w, (callFunc g args).run P w = .ok (.enter g args) w)
    (hcmp : ∀ x y W, Ret P g #[.agg (enc x).toArray, .agg (enc y).toArray] W fun v w' => v = .int .i64 (cf x y) ∧ Below W.heap.size W w')
    {F : Frz} {e : TypeId} {v : Value} {xs r : List α} {w : World} (hS : St v.ownBlock.toList w F F [.row t e v xs] w) (H : sortM cf xs = some r) :
    Ret P (ρ.f 6) #[v, .func (.func g) #[] #[]] w fun u w' => ∃ F', St v.ownBlock.toList w F F' [.row t e v r] w' := by
  have he : ∀ x, (enc x).length = t.size := fun x => t.len ((hrel (fun _ => none) _ x).2 rfl)
  have h1 : ∀ x, ∀ u ∈ enc x, u.oneCell' = true := fun x => t.one ((hrel (fun _ => none) _ x).2 rfl)
  unfold sortM at H
  split at H
  · rename_i hlen
    obtain rfl := Option.some.inj H
    have hown := ow_of_row (enc := enc) he (fun cs x h => (hrel F cs x).1 h) (hS.ok (i := 0) rfl)
    refine Ret.mono (sortFunc_ow L t.size aE zE enc he h1 cf hO hT g eg hcmp hown (Nat.zero_le _) (by omega)) fun u w' hq => ?_
    obtain ⟨hO', hG⟩ := hq
    rw [← isort_eq hO hT] at hO'
    exact ⟨F, hS.put (i := 0) (o := .row t e v xs) _ rfl hG (row_of_ow (enc := enc) he (fun x => (hrel F _ x).2 rfl) hO') (.inl rfl)⟩
  · cases H
end
end Go.Wk
