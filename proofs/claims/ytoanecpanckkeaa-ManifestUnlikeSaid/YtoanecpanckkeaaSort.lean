/- slices.SortFunc at elements of several cells, over a slice of the call's own: the kit's contract in our words. -/
import Derived.Test.YtoanecpanckkeaaOwn
import Derived.Shelf.SlSortCmp.NoneTotal
import Derived.Ground.SlsfProg
namespace Go.Wk
open Go.RowKit Go.Shelf Go.Sort Go.Lib Go.Proofs

theorem below_grow {W w' : World} (h : Below W.heap.size W w') : ∃ q os, w' = grow (W.drewN q) os := by
  refine ⟨w'.drawn - W.drawn, w'.heap.extract W.heap.size w'.heap.size, ?_⟩
  have h1 := h.os; have h2 := h.tape; have h3 := h.output; have h4 := h.drawn; have h5 := h.block; have h6 := h.size
  obtain ⟨hp, tp, dr, os, out⟩ := w'
  simp only at h1 h2 h3 h4 h5 h6
  subst h1; subst h2; subst h3
  simp only [grow, World.drewN]
  congr 1
  · apply Array.ext_getElem?
    intro i
    by_cases hi : i < W.heap.size
    · rw [Array.getElem?_append_left hi, h5 i hi]
    · rw [Array.getElem?_append_right (by omega)]
      by_cases hl : i < hp.size
      · simp [hl, show i - W.heap.size < hp.size - W.heap.size by omega, show W.heap.size + (i - W.heap.size) = i by omega]
      · rw [Array.getElem?_eq_none (by omega), Array.getElem?_eq_none (by simp; omega)]
  · omega

section
variable {α : Type} [Inhabited α]
theorem flatK_list {enc : α → List Value} {k : Nat} (hk : ∀ x, (enc x).length = k) (ds : List α) : (flatK enc k ds.toArray).toList = ds.flatMap enc := by
  apply List.ext_getElem?
  intro q
  have hl2 : (ds.flatMap enc).length = ds.length * k := flat_length hk ds
  by_cases hq : q < ds.length * k
  · have hr := List.getElem?_eq_getElem (l := ds.flatMap enc) (i := q) (by omega)
    obtain ⟨i, dd, j, h1, h2, h3⟩ := flat_cells hk _ _ _ hr
    have hj : j < k := by have := (List.getElem?_eq_some_iff.1 h2).1; rw [hk] at this; exact this
    have hdiv : q / k = i := by rw [h3, Nat.add_comm, Nat.add_mul_div_right _ _ (by omega), Nat.div_eq_of_lt hj, Nat.zero_add]
    have hmod : q % k = j := by rw [h3, Nat.add_comm, Nat.add_mul_mod_self_right, Nat.mod_eq_of_lt hj]
    rw [hr, ← h2]
    have hi := (List.getElem?_eq_some_iff.1 h1)
    have hj2 := (List.getElem?_eq_some_iff.1 h2)
    have hd : ds.toArray[i]! = dd := by rw [getElem!_pos ds.toArray i (by simpa using hi.1)]; simpa using hi.2
    simp [flatK, hq, hdiv, hmod]
    have hd' : ds[i]?.getD default = dd := by rw [h1]; rfl
    rw [hd', h2]; rfl
  · rw [List.getElem?_eq_none (by simp [flatK]; omega), List.getElem?_eq_none (by omega)]

theorem sortFunc_ow {P : Program} {ρ : Ren} (L : SlLaysF0.n6 P ρ) (k : Nat) (aE : ∀ w, (isAgg (ρ.t 24)).run P w = .ok true w) (zE : ∀ w, (Go.sizeOf (ρ.t 24)).run P w = .ok k w) (enc : α → List Value) (hk : ∀ x, (enc x).length = k) (h1 : ∀ x, ∀ v ∈ enc x, v.oneCell' = true) (cf : α → α → Int)
    (hO : SWO (ltOf cf)) (hT : ∀ x y, (ltOf cf) x y = false → (ltOf cf) y x = false → x = y) (g : Nat) (eg : ∀ args w, (callFunc g args).run P w = .ok (.enter g args) w)
    (hcmp : ∀ x y W, Ret P g #[.agg (enc x).toArray, .agg (enc y).toArray] W fun v w' => v = .int .i64 (cf x y) ∧ Below W.heap.size W w')
    {base : Nat} {e : TypeId} {v : Value} {ds : List α} {w : World} (hown : Ow w base e k enc v ds) (hbase : base ≤ w.heap.size) (hsz : ds.length < 4611686018427387904) :
    Ret P (ρ.f 6) #[v, .func (.func g) #[] #[]] w fun _ w' => Ow w' base e k enc v (ds.mergeSort fun x y => !(ltOf cf) y x) ∧ Gb w w' v.ownBlock := by
  have hown2 := hown
  obtain ⟨he, hl, h2⟩ := hown2
  rcases h2 with ⟨rfl, h0⟩ | ⟨b, cap, cur, rfl, hb, hg, hn, hm, hs, ht⟩
  · have hd : ds = [] := List.eq_nil_of_length_eq_zero h0
    subst hd
    refine Calls.mono (AnyF.slices_SortFunc_none L none 0 _ w) fun ex w' hq => ?_
    obtain ⟨rfl, rfl⟩ := hq
    exact ⟨by simpa using hown, ⟨rfl, rfl, rfl, Nat.le_refl _, fun _ _ _ => rfl, Nat.le_refl _⟩⟩
  · have hbl : b < w.heap.size := (Array.getElem?_eq_some_iff.1 hg).1
    have hfl := flatK_list hk ds
    have hHold : HoldsK enc k w b 0 ds.toArray := by
      intro j hj
      have hj' : j < ds.length * k := by simpa using hj
      have hjl : j < (flatK enc k ds.toArray).toList.length := by simpa using hj'
      have hcell : cur[j]? = some ((flatK enc k ds.toArray)[j]!) := by
        have h3 : (cur.toList.take (ds.length * k))[j]? = some ((flatK enc k ds.toArray)[j]!) := by
          rw [ht, ← hfl, List.getElem?_eq_getElem hjl]
          simp at hjl
          simp [hjl]
        rw [List.getElem?_take_of_lt hj'] at h3
        simpa using h3
      refine ⟨by simp [World.cell?, hg, hcell], by simp [World.frozen?, hg]⟩
    have hcon := AnyQ.slices_SortFunc_total L k aE zE enc hk h1 cf hO g #[] b 0 cap ds.toArray w eg (fun m os dk _ x y => Calls.mono (hcmp x y _) fun ex w' hq => (by
      cases ex with
      | returned u => obtain ⟨rfl, hB⟩ := hq; exact ⟨rfl, below_grow hB⟩
      | _ => exact hq.elim)) hHold hbl (by simpa using hsz) hT
    simp only [List.size_toArray] at hcon
    refine Calls.mono hcon fun ex w' hq => ?_
    obtain ⟨rfl, n, os, rfl⟩ := hq
    generalize hS : (ds.mergeSort fun x y => !(ltOf cf) y x) = S at *
    have hSl : S.length = ds.length := by rw [← hS]; simp
    have hSf := flatK_list hk S
    have hheap : (sortWorldK enc k w b 0 n S.toArray os).heap[b]? = some (.cells (putCells id 0 (flatK enc k S.toArray) cur) e (0, 0)) := by
      show ((mapBlock (Sort.ahead w n) b _).heap ++ os)[b]? = _
      rw [Array.getElem?_append_left (by simp [mapBlock, Sort.ahead]; exact hbl)]
      simp [mapBlock, Sort.ahead, Array.getElem?_modify, hg, onCells]
    have hput : (putCells id 0 (flatK enc k S.toArray) cur).toList.take (S.length * k) = S.flatMap enc := by
      rw [← hSf]
      apply List.ext_getElem?
      intro q
      by_cases hq : q < S.length * k
      · rw [List.getElem?_take_of_lt hq]
        have hqc : q < cur.size := by
          rw [hs]; rw [hSl] at hq
          exact Nat.lt_of_lt_of_le hq (Nat.mul_le_mul_right _ hn)
        simp [putCells, hqc, hq]
      · rw [List.getElem?_eq_none (by simp; omega), List.getElem?_eq_none (by simp; omega)]
    refine ⟨⟨hk, flat_length hk S, .inr ⟨b, cap, _, by rw [hSl], hb, hheap, by rw [hSl]; exact hn, hm, by simp [putCells, hs], hput⟩⟩, ?_⟩
    refine ⟨rfl, rfl, rfl, ?_, fun q hq hqb => ?_, ?_⟩
    · show w.heap.size ≤ ((mapBlock (Sort.ahead w n) b _).heap ++ os).size
      simp [mapBlock, Sort.ahead]
    · show ((mapBlock (Sort.ahead w n) b _).heap ++ os)[q]? = _
      rw [Array.getElem?_append_left (by simp [mapBlock, Sort.ahead]; omega)]
      simp [mapBlock, Sort.ahead, Array.getElem?_modify]
      intro h; exact absurd (by rw [h]; rfl) hqb
    · show w.drawn ≤ w.drawn + n
      omega
end
end Go.Wk
