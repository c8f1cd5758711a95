/- Sorting where ties may be: slices.SortFunc gives some risen row of the same elements. -/
import Derived.Test.YtoanecpanckkeaaLsort
import Derived.Test.YtoanecpanckkeaaStrs
namespace Go.Wk
open Go.RowKit Go.Shelf Go.Sort Go.Lib Go.Proofs
set_option linter.unusedVariables false

section
variable {α : Type} [Inhabited α]
theorem sortFunc_any {P : Program} {ρ : Ren} (L : SlLaysF0.n6 P ρ) (k : Nat) (aE : ∀ w, (isAgg (ρ.t 24)).run P w = .ok true w) (zE : ∀ w, (Go.sizeOf (ρ.t 24)).run P w = .ok k w) (enc : α → List Value) (hk : ∀ x, (enc x).length = k) (h1 : ∀ x, ∀ v ∈ enc x, v.oneCell' = true) (cf : α → α → Int)
    (hO : SWO (ltOf cf)) (g : Nat) (eg : ∀ args w, (callFunc g args).run P w = .ok (.enter g args) w)
    {base : Nat} {e : TypeId} {v : Value} {ds : List α} {w : World} (hcmp : ∀ x y W, w.heap.size ≤ W.heap.size → (∀ q, q < w.heap.size → some q ≠ v.ownBlock → W.heap[q]? = w.heap[q]?) → Ret P g #[.agg (enc x).toArray, .agg (enc y).toArray] W fun v w' => v = .int .i64 (cf x y) ∧ Below W.heap.size W w')
    (hown : Ow w base e k enc v ds) (hbase : base ≤ w.heap.size) (hsz : ds.length < 4611686018427387904) :
    Ret P (ρ.f 6) #[v, .func (.func g) #[] #[]] w fun _ w' => ∃ S, S.Perm ds ∧ S.Pairwise (fun x y => ¬ cf y x < 0) ∧ Ow w' base e k enc v S ∧ Gb w w' v.ownBlock := by
  have hown2 := hown
  obtain ⟨he, hl, h2⟩ := hown2
  rcases h2 with ⟨rfl, h0⟩ | ⟨b, cap, cur, rfl, hb, hg, hn, hm, hs, ht⟩
  · have hd : ds = [] := List.eq_nil_of_length_eq_zero h0
    subst hd
    refine Calls.mono (AnyF.slices_SortFunc_none L none 0 _ w) fun ex w' hq => ?_
    obtain ⟨rfl, rfl⟩ := hq
    exact ⟨[], List.Perm.refl _, List.Pairwise.nil, hown, ⟨rfl, rfl, rfl, Nat.le_refl _, fun _ _ _ => rfl, Nat.le_refl _⟩⟩
  · have hbl : b < w.heap.size := (Array.getElem?_eq_some_iff.1 hg).1
    have hfl := flatK_list hk ds
    have hHold : HoldsK enc k w b 0 ds.toArray := by
      intro j hj
      have hj' : j < ds.length * k := by simpa using hj
      have hjl : j < (flatK enc k ds.toArray).toList.length := by simpa using hj'
      have hcell : cur[j]? = some ((flatK enc k ds.toArray)[j]!) := by
        have h3 : (cur.toList.take (ds.length * k))[j]? = some ((flatK enc k ds.toArray)[j]!) := by
          rw [ht, ← hfl, List.getElem?_eq_getElem hjl]
          simp at hjl
          simp [hjl]
        rw [List.getElem?_take_of_lt hj'] at h3
        simpa using h3
      refine ⟨by simp [World.cell?, hg, hcell], by simp [World.frozen?, hg]⟩
    have hcon := AnyQ.slices_SortFunc L k aE zE enc hk h1 cf hO g #[] b 0 cap ds.toArray w eg (fun m os dk _ x y => Calls.mono (hcmp x y _ (by
        show w.heap.size ≤ ((mapBlock (Sort.ahead w m) b _).heap ++ os).size
        simp [mapBlock, Sort.ahead]) (fun q hq hqb => by
        show ((mapBlock (Sort.ahead w m) b _).heap ++ os)[q]? = _
        rw [Array.getElem?_append_left (by simp [mapBlock, Sort.ahead]; omega)]
        simp [mapBlock, Sort.ahead, Array.getElem?_modify]
        intro h; exact absurd (by rw [h]; rfl) hqb)) fun ex w' hq => (by
      cases ex with
      | returned u => obtain ⟨rfl, hB⟩ := hq; exact ⟨rfl, below_grow hB⟩
      | _ => exact hq.elim)) hHold hbl (by simpa using hsz)
    simp only [List.size_toArray] at hcon
    refine Calls.mono hcon fun ex w' hq => ?_
    obtain ⟨rfl, d', n, os, hp, hso, rfl⟩ := hq
    have hpS : d'.toList.Perm ds := by
      have h3 := hp.2.2
      have h4 : d'.size = ds.length := by simpa using hp.1
      simp only [List.extract_toArray] at h3
      rw [← h4] at h3
      rw [Array.extract_size] at h3
      simpa [h4] using h3
    have hdl : d'.toList.toArray = d' := by simp
    rw [← hdl] at hso ⊢
    generalize d'.toList = S at *
    have hSl : S.length = ds.length := hpS.length_eq
    have hSf := flatK_list hk S
    have hheap : (sortWorldK enc k w b 0 n S.toArray os).heap[b]? = some (.cells (putCells id 0 (flatK enc k S.toArray) cur) e (0, 0)) := by
      show ((mapBlock (Sort.ahead w n) b _).heap ++ os)[b]? = _
      rw [Array.getElem?_append_left (by simp [mapBlock, Sort.ahead]; exact hbl)]
      simp [mapBlock, Sort.ahead, Array.getElem?_modify, hg, onCells]
    have hput : (putCells id 0 (flatK enc k S.toArray) cur).toList.take (S.length * k) = S.flatMap enc := by
      rw [← hSf]
      apply List.ext_getElem?
      intro q
      by_cases hq : q < S.length * k
      · rw [List.getElem?_take_of_lt hq]
        have hqc : q < cur.size := by
          rw [hs]; rw [hSl] at hq
          exact Nat.lt_of_lt_of_le hq (Nat.mul_le_mul_right _ hn)
        simp [putCells, hqc, hq]
      · rw [List.getElem?_eq_none (by simp; omega), List.getElem?_eq_none (by simp; omega)]
    refine ⟨S, hpS, ?_, ⟨hk, flat_length hk S, .inr ⟨b, cap, _, by rw [hSl], hb, hheap, by rw [hSl]; exact hn, hm, by simp [putCells, hs], hput⟩⟩, ?_⟩
    · rw [List.pairwise_iff_getElem]
      intro i j hi hj hij
      have h3 := hso i j (Nat.zero_le _) hij (by rw [← hSl]; exact hj)
      rw [getElem!_pos S.toArray i (by simpa using hi), getElem!_pos S.toArray j (by simpa using hj)] at h3
      simpa [ltOf] using h3
    · refine ⟨rfl, rfl, rfl, ?_, fun q hq hqb => ?_, ?_⟩
      · show w.heap.size ≤ ((mapBlock (Sort.ahead w n) b _).heap ++ os).size
        simp [mapBlock, Sort.ahead]
      · show ((mapBlock (Sort.ahead w n) b _).heap ++ os)[q]? = _
        rw [Array.getElem?_append_left (by simp [mapBlock, Sort.ahead]; omega)]
        simp [mapBlock, Sort.ahead, Array.getElem?_modify]
        intro h; exact absurd (by rw [h]; rfl) hqb
      · show w.drawn ≤ w.drawn + n
        omega
end

section
variable {α β : Type}
/-- whatever risen row of the same elements stands for l: K tells the same -/
noncomputable def bdS (cf : α → α → Int) (l : List α) (K : List α → Option β) : Option β :=
  open Classical in if h : l.length ≤ 1073741824 ∧ ∃ r, ∀ l' : List α, l'.Perm l → Rise cf l' → K l' = some r then some h.2.choose else none
theorem bdS_some {cf : α → α → Int} {l : List α} {K : List α → Option β} {r : β} (h : bdS cf l K = some r) : l.length ≤ 1073741824 ∧ ∀ l', l'.Perm l → Rise cf l' → K l' = some r := by
  unfold bdS at h
  split at h
  · rename_i hc
    obtain rfl := Option.some.inj h
    exact ⟨hc.1, hc.2.choose_spec⟩
  · cases h
theorem bdS_eq {cf : α → α → Int} (hO : SWO (ltOf cf)) {l : List α} {K : List α → Option β} {r : β} (hl : l.length ≤ 1073741824) (h : ∀ l', l'.Perm l → Rise cf l' → K l' = some r) : bdS cf l K = some r := by
  unfold bdS
  have hc : l.length ≤ 1073741824 ∧ ∃ r, ∀ l' : List α, l'.Perm l → Rise cf l' → K l' = some r := ⟨hl, r, h⟩
  rw [dif_pos hc]
  have h1 := hc.2.choose_spec (isort cf l) (isort_perm cf l) (isort_rise hO l)
  rw [h _ (isort_perm cf l) (isort_rise hO l)] at h1
  exact h1.symm
end

theorem pairs_of {α : Type} {t : Tr α} {F : Frz} : ∀ {css : List (Cl t.size)} {xs : List α}, RelL t F css xs → ∃ ds : List {p : Cl t.size × α // t.rel F p.1.val p.2}, ds.map (fun p => p.val.1) = css ∧ ds.map (fun p => p.val.2) = xs
  | [], [], _ => ⟨[], rfl, rfl⟩
  | [], _ :: _, h => by have := h.1; simp at this
  | _ :: _, [], h => by have := h.1; simp at this
  | c :: css, x :: xs, h => by
    have h0 := h.2 0 c x rfl rfl
    obtain ⟨ds, h1, h2⟩ := pairs_of (css := css) (xs := xs) ⟨by simpa using h.1, fun i d y hi hy => h.2 (i + 1) d y (by simpa using hi) (by simpa using hy)⟩
    exact ⟨⟨(c, x), h0⟩ :: ds, by simp [h1], by simp [h2]⟩
theorem rel_pairs {α : Type} {t : Tr α} {F : Frz} (ds : List {p : Cl t.size × α // t.rel F p.1.val p.2}) : RelL t F (ds.map (fun p => p.val.1)) (ds.map (fun p => p.val.2)) :=
  ⟨by simp, fun i d y hi hy => by
    simp only [List.getElem?_map, Option.map_eq_some_iff] at hi hy
    obtain ⟨p, hp, rfl⟩ := hi
    obtain ⟨q, hq, rfl⟩ := hy
    rw [hp] at hq; obtain rfl := Option.some.inj hq
    exact p.2⟩
theorem sort_anyrow {α : Type} {P : Program} {ρ : Ren} (L : SlLaysF0.n6 P ρ) (t : Tr α) (aE : ∀ w, (isAgg (ρ.t 24)).run P w = .ok true w) (zE : ∀ w, (Go.sizeOf (ρ.t 24)).run P w = .ok t.size w)
    (cf : α → α → Int) (hO : SWO (ltOf cf)) (hz : ∃ c x, ∀ F, t.rel F c x) (g : Nat) (eg : ∀ args w, (callFunc g args).run P w = .ok (.enter g args) w)
    (hcmp : ∀ F c x d y W, Agree F W.heap → t.rel F c x → t.rel F d y → Ret P g #[.agg c.toArray, .agg d.toArray] W fun v w' => v = .int .i64 (cf x y) ∧ Below W.heap.size W w')
    {F : Frz} {e : TypeId} {v : Value} {xs : List α} {w : World} (hS : St v.ownBlock.toList w F F [.row t e v xs] w) (hlen : xs.length ≤ 1073741824) :
    Ret P (ρ.f 6) #[v, .func (.func g) #[] #[]] w fun u w' => ∃ F' l', l'.Perm xs ∧ Rise cf l' ∧ St v.ownBlock.toList w F F' [.row t e v l'] w' := by
  obtain ⟨css, hr, hown⟩ := hS.ok (i := 0) rfl
  obtain ⟨ds, rfl, rfl⟩ := pairs_of hr
  obtain ⟨c0, x0, h0⟩ := hz
  haveI : Inhabited {p : Cl t.size × α // t.rel F p.1.val p.2} := ⟨⟨(⟨c0, t.len (h0 F)⟩, x0), h0 F⟩⟩
  have hO' : SWO (ltOf fun p q : {p : Cl t.size × α // t.rel F p.1.val p.2} => cf p.val.2 q.val.2) := ⟨fun x => hO.irrefl _, fun x y z => hO.trans _ _ _, fun x y z => hO.ntrans _ _ _⟩
  have hfm : ∀ ds : List {p : Cl t.size × α // t.rel F p.1.val p.2}, (ds.map (fun p => p.val.1)).flatMap Subtype.val = ds.flatMap (fun p => p.val.1.val) := fun ds => by rw [List.flatMap_map]
  have hown' : Ow w 0 e t.size (fun p : {p : Cl t.size × α // t.rel F p.1.val p.2} => p.val.1.val) v ds := by
    obtain ⟨a1, a2, a3⟩ := hown
    rw [hfm] at a2 a3
    simp only [List.length_map] at a2 a3
    exact ⟨fun p => p.val.1.2, a2, a3⟩
  refine Ret.mono (sortFunc_any L t.size aE zE (fun p : {p : Cl t.size × α // t.rel F p.1.val p.2} => p.val.1.val) (fun p => p.val.1.2) (fun p => t.one p.2) _ hO' g eg (fun x y W hsz hW => hcmp F _ _ _ _ W (fun a u ha => ?_) x.2 y.2) hown' (Nat.zero_le _) (by simp at hlen; omega)) fun u w' hq => ?_
  · have h1 := hS.agree a u ha
    rw [← h1]
    refine hc_of_block (hW _ (hc_lt h1) fun hb => ?_)
    have := ((hS.own 0 _ rfl).2 a.block (mem_row.2 hb.symm)).1 a rfl
    rw [this] at ha; cases ha
  · obtain ⟨S, hp, hso, hO2, hG⟩ := hq
    refine ⟨F, S.map (fun p => p.val.2), hp.map _, ?_, hS.put (i := 0) (o := .row t e v _) _ rfl hG ⟨S.map (fun p => p.val.1), rel_pairs S, ?_⟩ (.inl rfl)⟩
    · exact List.pairwise_map.2 hso
    · obtain ⟨a1, a2, a3⟩ := hO2
      refine ⟨fun d => d.2, ?_, ?_⟩
      · rw [hfm]; simpa using a2
      · rw [hfm]; simpa using a3

/- texts in order -/
theorem sLt_eq : ∀ (x y : List UInt8), sLt x y = decide (x < y)
  | [], [] => by simp [sLt, Op.bytesLess]
  | _ :: _, [] => by simp [sLt, Op.bytesLess]
  | [], _ :: _ => by simp [sLt, Op.bytesLess]
  | a :: x, b :: y => by
    have h := sLt_eq x y
    rw [sLt] at h ⊢
    rw [Op.bytesLess, h]
    simp only [List.cons_lt_cons_iff]
    by_cases h1 : a < b <;> by_cases h2 : a = b <;> by_cases h3 : x < y <;> simp [h1, h2, h3]
theorem sLt_irrefl (x : List UInt8) : sLt x x = false := by rw [sLt_eq]; simp [List.lt_irrefl]
theorem sLt_trans {x y z : List UInt8} (h1 : sLt x y = true) (h2 : sLt y z = true) : sLt x z = true := by
  rw [sLt_eq, decide_eq_true_eq] at *; exact List.lt_trans h1 h2
theorem sLt_tri {x y : List UInt8} (h1 : sLt x y = false) (h2 : sLt y x = false) : x = y := by
  rw [sLt_eq, decide_eq_false_iff_not, List.not_lt] at *; exact List.le_antisymm h2 h1
theorem sLt_asymm {x y : List UInt8} (h1 : sLt x y = true) : sLt y x = false := by
  cases h : sLt y x with
  | false => rfl
  | true => have := sLt_trans h1 h; rw [sLt_irrefl] at this; cases this
def cmpT (a b : List UInt8) : Int := if sLt a b then -1 else if sLt b a then 1 else 0
theorem cmpT_lt (a b : List UInt8) : ltOf cmpT a b = sLt a b := by
  simp only [ltOf, cmpT]
  by_cases h : sLt a b = true
  · simp [h]
  · by_cases h2 : sLt b a = true <;> simp [h, h2]
theorem swo_sLt : SWO sLt := ⟨sLt_irrefl, fun _ _ _ => sLt_trans, fun x y z h1 h2 => by
  rw [sLt_eq, decide_eq_false_iff_not, List.not_lt] at *; exact List.le_trans h2 h1⟩
theorem swo_of {α : Type} {cf : α → α → Int} {f : α → List UInt8} (h : ∀ x y, ltOf cf x y = sLt (f x) (f y)) : SWO (ltOf cf) :=
  ⟨fun x => by rw [h]; exact swo_sLt.irrefl _, fun x y z h1 h2 => by rw [h] at *; exact swo_sLt.trans _ _ _ h1 h2, fun x y z h1 h2 => by rw [h] at *; exact swo_sLt.ntrans _ _ _ h1 h2⟩
/-- what cmp.Compare tells of texts -/
theorem gtr_eq (a b : List UInt8) : (!(sLt a b || a == b)) = sLt b a := by
  cases h : sLt a b with
  | true => rw [sLt_asymm h]; rfl
  | false =>
    cases h2 : sLt b a with
    | true =>
      have : a ≠ b := by intro e; subst e; rw [sLt_irrefl] at h2; cases h2
      simp [this]
    | false => have := sLt_tri h h2; simp [this]
end Go.Wk
