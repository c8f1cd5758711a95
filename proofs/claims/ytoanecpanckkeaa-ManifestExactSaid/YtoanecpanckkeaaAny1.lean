/- Sorting where ties may be, of elements of one cell. -/
import Derived.Test.YtoanecpanckkeaaAnys
namespace Go.Wk
open Go.RowKit Go.Shelf Go.Sort Go.Lib Go.Proofs
set_option linter.unusedVariables false

section
variable {α : Type} [Inhabited α]
theorem sortFunc_any1 {P : Program} {ρ : Ren} (L : SlLaysF.n6 P ρ) (enc : α → Value) (h1 : ∀ x, (enc x).oneCell' = true) (cf : α → α → Int)
    (hO : SWO (ltOf cf)) (g : Nat) (eg : ∀ args w, (callFunc g args).run P w = .ok (.enter g args) w)
    {base : Nat} {e : TypeId} {v : Value} {ds : List α} {w : World} (hcmp : ∀ x y W, w.heap.size ≤ W.heap.size → (∀ q, q < w.heap.size → some q ≠ v.ownBlock → W.heap[q]? = w.heap[q]?) → Ret P g #[enc x, enc y] W fun v w' => v = .int .i64 (cf x y) ∧ Below W.heap.size W w')
    (hown : Ow w base e 1 (fun x => [enc x]) v ds) (hbase : base ≤ w.heap.size) (hsz : ds.length < 4611686018427387904) :
    Ret P (ρ.f 6) #[v, .func (.func g) #[] #[]] w fun _ w' => ∃ S, S.Perm ds ∧ S.Pairwise (fun x y => ¬ cf y x < 0) ∧ Ow w' base e 1 (fun x => [enc x]) v S ∧ Gb w w' v.ownBlock := by
  have hown2 := hown
  obtain ⟨he, hl, h2⟩ := hown2
  have hfm : ∀ S : List α, S.flatMap (fun x => [enc x]) = S.map enc := fun S => by induction S with
    | nil => rfl
    | cons x S ih => simp [ih]
  rcases h2 with ⟨rfl, h0⟩ | ⟨b, cap, cur, rfl, hb, hg, hn, hm, hs, ht⟩
  · have hd : ds = [] := List.eq_nil_of_length_eq_zero h0
    subst hd
    refine Calls.mono (AnyF.slices_SortFunc_none { L with } none 0 _ w) fun ex w' hq => ?_
    obtain ⟨rfl, rfl⟩ := hq
    exact ⟨[], List.Perm.refl _, List.Pairwise.nil, hown, ⟨rfl, rfl, rfl, Nat.le_refl _, fun _ _ _ => rfl, Nat.le_refl _⟩⟩
  · have hbl : b < w.heap.size := (Array.getElem?_eq_some_iff.1 hg).1
    rw [hfm] at ht
    have hHold : Holds enc w b 0 ds.toArray := by
      intro j hj
      have hj' : j < ds.length := by simpa using hj
      have hcell : cur[j]? = some (enc (ds.toArray[j]!)) := by
        have h3 : (cur.toList.take (ds.length * 1))[j]? = some (enc (ds.toArray[j]!)) := by
          rw [ht, getElem!_pos _ j hj]; simp [hj']
        rw [List.getElem?_take_of_lt (by omega)] at h3
        simpa using h3
      refine ⟨by simp [World.cell?, hg, hcell], by simp [World.frozen?, hg]⟩
    have hcon := Any.slices_SortFunc L enc h1 cf hO g #[] b 0 cap ds.toArray w eg (fun m os dk _ x y => Calls.mono (hcmp x y _ (by
        show w.heap.size ≤ ((mapBlock (Sort.ahead w m) b _).heap ++ os).size
        simp [mapBlock, Sort.ahead]) (fun q hq hqb => by
        show ((mapBlock (Sort.ahead w m) b _).heap ++ os)[q]? = _
        rw [Array.getElem?_append_left (by simp [mapBlock, Sort.ahead]; omega)]
        simp [mapBlock, Sort.ahead, Array.getElem?_modify]
        intro h; exact absurd (by rw [h]; rfl) hqb)) fun ex w' hq => (by
      cases ex with
      | returned u => obtain ⟨rfl, hB⟩ := hq; exact ⟨rfl, below_grow hB⟩
      | _ => exact hq.elim)) hHold hbl (by simpa using hsz)
    simp only [List.size_toArray] at hcon
    refine Calls.mono hcon fun ex w' hq => ?_
    obtain ⟨rfl, d', n, os, hp, hso, rfl⟩ := hq
    have hpS : d'.toList.Perm ds := by
      have h3 := hp.2.2
      have h4 : d'.size = ds.length := by simpa using hp.1
      simp only [List.extract_toArray] at h3
      rw [← h4] at h3
      rw [Array.extract_size] at h3
      simpa [h4] using h3
    have hdl : d'.toList.toArray = d' := by simp
    rw [← hdl] at hso ⊢
    generalize d'.toList = S at *
    have hSl : S.length = ds.length := hpS.length_eq
    have hheap : (sortWorld enc w b 0 n S.toArray os).heap[b]? = some (.cells (putCells enc 0 S.toArray cur) e (0, 0)) := by
      show ((mapBlock (Sort.ahead w n) b _).heap ++ os)[b]? = _
      rw [Array.getElem?_append_left (by simp [mapBlock, Sort.ahead]; exact hbl)]
      simp [mapBlock, Sort.ahead, Array.getElem?_modify, hg, onCells]
    have hput : (putCells enc 0 S.toArray cur).toList.take (S.length * 1) = S.flatMap (fun x => [enc x]) := by
      rw [hfm]
      apply List.ext_getElem?
      intro q
      by_cases hq : q < S.length
      · rw [List.getElem?_take_of_lt (by omega)]
        have hqc : q < cur.size := by rw [hs]; omega
        simp [putCells, hqc, hq]
      · rw [List.getElem?_eq_none (by simp; omega), List.getElem?_eq_none (by simp; omega)]
    refine ⟨S, hpS, ?_, ⟨he, flat_length he S, .inr ⟨b, cap, _, by rw [hSl], hb, hheap, by rw [hSl]; exact hn, hm, by simp [putCells, hs], hput⟩⟩, ?_⟩
    · rw [List.pairwise_iff_getElem]
      intro i j hi hj hij
      have h3 := hso i j (Nat.zero_le _) hij (by rw [← hSl]; exact hj)
      rw [getElem!_pos S.toArray i (by simpa using hi), getElem!_pos S.toArray j (by simpa using hj)] at h3
      simpa [ltOf] using h3
    · refine ⟨rfl, rfl, rfl, ?_, fun q hq hqb => ?_, ?_⟩
      · show w.heap.size ≤ ((mapBlock (Sort.ahead w n) b _).heap ++ os).size
        simp [mapBlock, Sort.ahead]
      · show ((mapBlock (Sort.ahead w n) b _).heap ++ os)[q]? = _
        rw [Array.getElem?_append_left (by simp [mapBlock, Sort.ahead]; omega)]
        simp [mapBlock, Sort.ahead, Array.getElem?_modify]
        intro h; exact absurd (by rw [h]; rfl) hqb
      · show w.drawn ≤ w.drawn + n
        omega
end
/-- the one cell -/
def cell1 {α : Type} {t : Tr α} {F : Frz} (p : {p : Cl t.size × α // t.rel F p.1.val p.2}) : Value := p.val.1.val.headD undef
theorem cell1_eq {α : Type} {t : Tr α} {F : Frz} (ht : t.size = 1) (p : {p : Cl t.size × α // t.rel F p.1.val p.2}) : p.val.1.val = [cell1 p] := by
  have := p.val.1.2.trans ht
  match h : p.val.1.val, this with
  | [u], _ => simp [cell1, h]
theorem sort_any1 {α : Type} {P : Program} {ρ : Ren} (L : SlLaysF.n6 P ρ) (t : Tr α) (ht : t.size = 1)
    (cf : α → α → Int) (hO : SWO (ltOf cf)) (g : Nat) (eg : ∀ args w, (callFunc g args).run P w = .ok (.enter g args) w)
    (ok : α → Prop) (hcmp : ∀ F c x d y W, Agree F W.heap → ok x → ok y → t.rel F [c] x → t.rel F [d] y → Ret P g #[c, d] W fun v w' => v = .int .i64 (cf x y) ∧ Below W.heap.size W w')
    {F : Frz} {e : TypeId} {v : Value} {xs : List α} {w : World} (hS : St v.ownBlock.toList w F F [.row t e v xs] w) (hlen : xs.length ≤ 1073741824) (hok : ∀ x ∈ xs, ok x) (hz2 : ∃ c x, (∀ F, t.rel F [c] x) ∧ ok x) :
    Ret P (ρ.f 6) #[v, .func (.func g) #[] #[]] w fun u w' => ∃ F' l', l'.Perm xs ∧ Rise cf l' ∧ St v.ownBlock.toList w F F' [.row t e v l'] w' := by
  obtain ⟨css, hr, hown⟩ := hS.ok (i := 0) rfl
  obtain ⟨ds0, hd1, hd2⟩ := pairs_of hr
  have hokp : ∀ p ∈ ds0, ok p.val.2 := fun p hp => hok _ (by rw [← hd2]; exact List.mem_map_of_mem hp)
  obtain ⟨ds, hds⟩ : ∃ ds : List {p : {p : Cl t.size × α // t.rel F p.1.val p.2} // ok p.val.2}, ds.map Subtype.val = ds0 := ⟨ds0.pmap Subtype.mk hokp, by rw [List.map_pmap]; simp⟩
  subst hds
  simp only [List.map_map] at hd1 hd2
  subst hd1
  subst hd2
  obtain ⟨c0, x0, h0, ho0⟩ := hz2
  haveI : Inhabited {p : {p : Cl t.size × α // t.rel F p.1.val p.2} // ok p.val.2} := ⟨⟨⟨(⟨[c0], t.len (h0 F)⟩, x0), h0 F⟩, ho0⟩⟩
  have hO' : SWO (ltOf fun p q : {p : {p : Cl t.size × α // t.rel F p.1.val p.2} // ok p.val.2} => cf p.val.val.2 q.val.val.2) := ⟨fun x => hO.irrefl _, fun x y z => hO.trans _ _ _, fun x y z => hO.ntrans _ _ _⟩
  have hfm : ∀ ds : List {p : {p : Cl t.size × α // t.rel F p.1.val p.2} // ok p.val.2}, (ds.map ((fun p => p.val.1) ∘ Subtype.val)).flatMap Subtype.val = ds.flatMap (fun p => [cell1 p.val]) := fun ds => by
    induction ds with
    | nil => rfl
    | cons p ds ih => simp only [List.map_cons, List.flatMap_cons, Function.comp_apply, ih]; rw [cell1_eq ht p.val]
  have hown' : Ow w 0 e 1 (fun p : {p : {p : Cl t.size × α // t.rel F p.1.val p.2} // ok p.val.2} => [cell1 p.val]) v ds := by
    obtain ⟨a1, a2, a3⟩ := hown
    rw [hfm] at a2 a3
    simp only [List.length_map, ht] at a2 a3
    exact ⟨fun p => rfl, a2, a3⟩
  have hone : ∀ p : {p : {p : Cl t.size × α // t.rel F p.1.val p.2} // ok p.val.2}, (cell1 p.val).oneCell' = true := fun p => t.one p.val.2 _ (by rw [cell1_eq ht]; simp)
  refine Ret.mono (sortFunc_any1 L (fun p : {p : {p : Cl t.size × α // t.rel F p.1.val p.2} // ok p.val.2} => cell1 p.val) hone _ hO' g eg (fun x y W hsz hW => hcmp F _ _ _ _ W (fun a u ha => ?_) x.2 y.2 (by rw [← cell1_eq ht]; exact x.val.2) (by rw [← cell1_eq ht]; exact y.val.2)) hown' (Nat.zero_le _) (by simp at hlen; omega)) fun u w' hq => ?_
  · have h1 := hS.agree a u ha
    rw [← h1]
    refine hc_of_block (hW _ (hc_lt h1) fun hb => ?_)
    have := ((hS.own 0 _ rfl).2 a.block (mem_row.2 hb.symm)).1 a rfl
    rw [this] at ha; cases ha
  · obtain ⟨S, hp, hso, hO2, hG⟩ := hq
    refine ⟨F, S.map ((fun p => p.val.2) ∘ Subtype.val), hp.map _, ?_, hS.put (i := 0) (o := .row t e v _) _ rfl hG ⟨S.map ((fun p => p.val.1) ∘ Subtype.val), by simpa [List.map_map] using rel_pairs (S.map Subtype.val), ?_⟩ (.inl rfl)⟩
    · exact List.pairwise_map.2 hso
    · obtain ⟨a1, a2, a3⟩ := hO2
      refine ⟨fun d => d.2, ?_, ?_⟩
      · rw [hfm]; simpa [ht] using a2
      · rw [hfm]; simpa [ht] using a3
end Go.Wk
