/- Lifted functions: frozen memory, typed relations, a state of owned objects; rules over them. -/
import Derived.Test.YtoanecpanckkeaaOwn
namespace Go.Wk
open Go.RowKit
set_option linter.unusedVariables false

/-- what will not turn again: cells -/
abbrev Frz := Addr → Option Value
def Frz.le (F G : Frz) : Prop := ∀ a u, F a = some u → G a = some u
theorem Frz.le.refl (F : Frz) : F.le F := fun _ _ h => h
theorem Frz.le.trans {F G H : Frz} (a : F.le G) (b : G.le H) : F.le H := fun x o h => b x o (a x o h)
def Agree (F : Frz) (h : Array Obj) : Prop := ∀ a u, F a = some u → hc h a = some u
theorem Agree.le {F G : Frz} {h : Array Obj} (a : Agree G h) (l : F.le G) : Agree F h := fun x u e => a x u (l x u e)
theorem Agree.below {F : Frz} {w w' : World} (a : Agree F w.heap) (hb : Below w.heap.size w w') : Agree F w'.heap := fun x u e => by
  have h1 := a x u e
  rw [← h1]
  exact hc_of_block (hb.block _ (hc_lt h1))

/-- cells of one size -/
abbrev Cl (s : Nat) := { l : List Value // l.length = s }

/-- a type's values and their cells -/
structure Tr (α : Type) where
  size : Nat
  rel : Frz → List Value → α → Prop
  pos : 0 < size
  len : ∀ {F cs x}, rel F cs x → cs.length = size
  one : ∀ {F cs x}, rel F cs x → ∀ u ∈ cs, u.oneCell' = true
  mono : ∀ {F G cs x}, F.le G → rel F cs x → rel G cs x

/-- a slice value of frozen cells -/
def SlC (F : Frz) (v : Value) (s : Nat) (css : List (Cl s)) : Prop := ∃ ao c, v = .slice ao css.length c ∧ css.length ≤ c ∧ c ≤ maxLen ∧ (ao = none → c = 0) ∧
  ∀ ad, ao = some ad → ∀ (i : Nat) (d : Cl s) (j : Nat) (u : Value), css[i]? = some d → d.1[j]? = some u → F (ad.add (i * s + j)) = some u
def RelL {α : Type} (t : Tr α) (F : Frz) (css : List (Cl t.size)) (xs : List α) : Prop := css.length = xs.length ∧ ∀ (i : Nat) (d : Cl t.size) (x : α), css[i]? = some d → xs[i]? = some x → t.rel F d.1 x
def SlF {α : Type} (t : Tr α) (F : Frz) (v : Value) (xs : List α) : Prop := ∃ css, RelL t F css xs ∧ SlC F v t.size css
section
variable {α : Type} {t : Tr α} {F G : Frz} {v : Value} {xs : List α} {s : Nat} {css : List (Cl s)}
theorem SlC.mono (h : SlC F v s css) (l : F.le G) : SlC G v s css := by
  obtain ⟨ao, c, e1, e2, e3, e4, e5⟩ := h
  exact ⟨ao, c, e1, e2, e3, e4, fun ad had i d j u h1 h2 => l _ _ (e5 ad had i d j u h1 h2)⟩
theorem RelL.mono {css : List (Cl t.size)} (h : RelL t F css xs) (l : F.le G) : RelL t G css xs := ⟨h.1, fun i d x h1 h2 => t.mono l (h.2 i d x h1 h2)⟩
theorem SlF.mono (h : SlF t F v xs) (l : F.le G) : SlF t G v xs := by
  obtain ⟨css, h1, h2⟩ := h
  exact ⟨css, h1.mono l, h2.mono l⟩
theorem SlF.nil (F : Frz) : SlF t F (.slice none 0 0) [] := ⟨[], ⟨rfl, fun i d x h _ => by simp at h⟩, none, 0, rfl, by simp, by simp [maxLen], fun _ => rfl, fun ad had => by cases had⟩
theorem SlC.sl {h : Array Obj} (hs : SlC F v s css) (ha : Agree F h) (hp : 0 < s) : Sl 0 h.size h s Subtype.val v css := by
  obtain ⟨ao, c, e1, e2, e3, e4, e5⟩ := hs
  refine ⟨fun d => d.2, ao, c, e1, e2, e3, e4, fun ad had => ⟨fun i d j u h1 h2 => ha _ _ (e5 ad had i d j u h1 h2), fun hne => ⟨Nat.zero_le _, ?_⟩⟩⟩
  cases css with
  | nil => exact absurd rfl hne
  | cons d r =>
    have hd : 0 < d.1.length := by rw [d.2]; exact hp
    have := ha _ _ (e5 ad had 0 d 0 d.1[0] rfl (List.getElem?_eq_getElem hd))
    have := hc_lt this
    rwa [Addr.block_add] at this
/-- a length, read off a slice value -/
def Ln (v : Value) (n : Nat) : Prop := ∃ ao c, v = .slice ao n c ∧ n ≤ maxLen ∧ n ≤ c ∧ (ao = none → c = 0)
theorem SlF.ln (h : SlF t F v xs) : Ln v xs.length := by
  obtain ⟨css, h1, ao, c, e1, e2, e3, e4, _⟩ := h
  rw [h1.1] at e1 e2
  exact ⟨ao, c, e1, by omega, e2, e4⟩
theorem Ln.form {n : Nat} (h : Ln v n) : ∃ ao m c, v = .slice ao m c := by obtain ⟨ao, c, h, _⟩ := h; exact ⟨ao, n, c, h⟩
theorem Ln.one {n : Nat} (h : Ln v n) : v.oneCell' = true := by obtain ⟨ao, c, rfl, _⟩ := h; rfl
theorem Ln.cells {n : Nat} (h : Ln v n) : v.cells = #[v] := by obtain ⟨ao, c, rfl, _⟩ := h; rfl
theorem SlF.piece (h : SlF t F v xs) {a b : Nat} (hab : a ≤ b) (hb : b ≤ xs.length) : ∃ ao c, v = .slice ao xs.length c ∧ xs.length ≤ c ∧
    (∀ m, m ≤ c → b ≤ m → SlF t F (.slice (if m = a then ao else ao.map (·.add (a * t.size))) (b - a) (m - a)) ((xs.take b).drop a)) := by
  obtain ⟨css, h1, ao, c, rfl, h2, h3, h4, h5⟩ := h
  refine ⟨ao, c, by rw [h1.1], by rw [← h1.1]; exact h2, fun m hm hbm => ?_⟩
  have hlen : ((css.take b).drop a).length = b - a := by simp [h1.1]; omega
  refine ⟨(css.take b).drop a, ⟨by simp [h1.1], fun i d x hi hx => ?_⟩, if m = a then ao else ao.map (·.add (a * t.size)), m - a, by rw [hlen], by rw [hlen]; omega, by omega, ?_, ?_⟩
  · rw [List.getElem?_drop, List.getElem?_take] at hi hx
    split at hi
    · rw [if_pos (by assumption)] at hx; exact h1.2 _ _ _ hi hx
    · cases hi
  · intro hn
    split at hn
    · omega
    · simp at hn; have := h4 hn; omega
  · intro ad had i d j u hi hj
    have hi' : css[a + i]? = some d := by
      rw [List.getElem?_drop, List.getElem?_take] at hi
      split at hi
      · exact hi
      · cases hi
    have hlt : a + i < b := by
      rw [List.getElem?_drop, List.getElem?_take] at hi
      split at hi
      · assumption
      · cases hi
    split at had
    · omega
    · cases hao : ao with
      | none => subst hao; simp at had
      | some ad0 =>
        subst hao
        simp at had
        subst had
        have := h5 ad0 rfl (a + i) d j u hi' hj
        rw [← this]
        rw [addr_add_add, show a * t.size + (i * t.size + j) = (a + i) * t.size + j from by rw [Nat.add_mul]; omega]
end

/-- an element's cells, at its place in the heap -/
def El (h : Array Obj) (v : Value) (s i : Nat) (cs : List Value) : Prop := cs.length = s ∧ ∃ ad n c, v = .slice (some ad) n c ∧ i < n ∧ ∀ q u, cs[q]? = some u → hc h (ad.add (i * s + q)) = some u
def Elf (F : Frz) (v : Value) (s i : Nat) (cs : List Value) : Prop := cs.length = s ∧ ∃ ad n c, v = .slice (some ad) n c ∧ i < n ∧ ∀ q u, cs[q]? = some u → F (ad.add (i * s + q)) = some u
theorem Elf.el {F : Frz} {h : Array Obj} {v : Value} {s i : Nat} {cs : List Value} (e : Elf F v s i cs) (a : Agree F h) : El h v s i cs := by
  obtain ⟨h0, ad, n, c, h1, h2, h3⟩ := e
  exact ⟨h0, ad, n, c, h1, h2, fun q u hq => a _ _ (h3 q u hq)⟩
theorem El.below {w w' : World} {v : Value} {s i : Nat} {cs : List Value} (e : El w.heap v s i cs) (hb : Below w.heap.size w w') : El w'.heap v s i cs := by
  obtain ⟨h0, ad, n, c, h1, h2, h3⟩ := e
  refine ⟨h0, ad, n, c, h1, h2, fun q u hq => ?_⟩
  have h4 := h3 q u hq
  rw [← h4]
  exact hc_of_block (hb.block _ (hc_lt h4))
theorem SlF.at_ {α : Type} {t : Tr α} {F : Frz} {v : Value} {xs : List α} {i : Nat} {x : α} (h : SlF t F v xs) (hi : xs[i]? = some x) : ∃ cs, t.rel F cs x ∧ Elf F v t.size i cs := by
  obtain ⟨css, h1, ao, c, rfl, h2, h3, h4, h5⟩ := h
  have hl := (List.getElem?_eq_some_iff.1 hi).1
  have hd := List.getElem?_eq_getElem (l := css) (i := i) (by rw [h1.1]; exact hl)
  have hr := h1.2 _ _ _ hd hi
  cases ao with
  | none => have := h4 rfl; have := h1.1; omega
  | some ad => exact ⟨_, hr, t.len hr, ad, _, c, rfl, by rw [h1.1]; exact hl, fun q u hq => h5 ad rfl i _ q u hd hq⟩

/-- values that own memory: their cells, and the blocks that are theirs alone -/
structure To (α : Type) where
  size : Nat
  rel : Frz → Array Obj → List Nat → List Value → α → Prop
  len : ∀ {F h bs cs x}, rel F h bs cs x → cs.length = size
  one : ∀ {F h bs cs x}, rel F h bs cs x → ∀ u ∈ cs, u.oneCell' = true
  lt : ∀ {F h bs cs x}, rel F h bs cs x → ∀ g ∈ bs, g < h.size
  nodup : ∀ {F h bs cs x}, rel F h bs cs x → bs.Nodup
  mono : ∀ {F G h bs cs x}, F.le G → rel F h bs cs x → rel G h bs cs x
  frame : ∀ {F h h' bs cs x}, rel F h bs cs x → (∀ g ∈ bs, h'[g]? = h[g]?) → rel F h' bs cs x

/-- an object that the call owns -/
inductive Ob : Type 1 where
  | box (g : Nat) (e : TypeId) (cs : List Value)
  | row {α : Type} (t : Tr α) (e : TypeId) (v : Value) (xs : List α)
  | deep {α : Type} (t : To α) (bs : List Nat) (cs : List Value) (x : α)
/-- its blocks -/
def Ob.blks : Ob → List Nat
  | .box g _ _ => [g]
  | .row _ _ v _ => v.ownBlock.toList
  | .deep _ bs _ _ => bs
theorem mem_row {α : Type} {t : Tr α} {e : TypeId} {v : Value} {xs : List α} {g : Nat} : g ∈ (Ob.row t e v xs).blks ↔ v.ownBlock = some g := by simp [Ob.blks]
def Ob.ok (F : Frz) (w : World) : Ob → Prop
  | .box g e cs => w.heap[g]? = some (.cells cs.toArray e (0, 0))
  | .row t e v xs => ∃ css : List (Cl t.size), RelL t F css xs ∧ Ow w 0 e t.size Subtype.val v css
  | .deep t bs cs x => t.rel F w.heap bs cs x
theorem Ob.ok.lt {F : Frz} {w : World} {o : Ob} (h : o.ok F w) {g : Nat} (hg : g ∈ o.blks) : g < w.heap.size := by
  cases o with
  | box g' e cs =>
    have : g = g' := by simpa [Ob.blks] using hg
    subst this
    exact (Array.getElem?_eq_some_iff.1 h).1
  | row t e v xs => obtain ⟨css, _, h2⟩ := h; exact (h2.lt g (by simpa [Ob.blks] using hg)).2
  | deep t bs cs x => exact t.lt h g hg
theorem Ob.ok.frame {F : Frz} {w w' : World} {o : Ob} (h : o.ok F w) (hk : ∀ g, g ∈ o.blks → w'.heap[g]? = w.heap[g]?) : o.ok F w' := by
  cases o with
  | box g' e cs => exact (hk g' (by simp [Ob.blks])).trans h
  | row t e v xs =>
    obtain ⟨css, h1, h2, h3, h4⟩ := h
    refine ⟨css, h1, h2, h3, ?_⟩
    rcases h4 with h4 | ⟨g', cap, cur, hv, hbg, hg, r⟩
    · exact .inl h4
    · subst hv
      exact .inr ⟨g', cap, cur, rfl, hbg, (hk g' (by simp [Ob.blks, Value.ownBlock])).trans hg, r⟩
  | deep t bs cs x => exact t.frame h hk
theorem Ob.ok.mono {F G : Frz} {w : World} {o : Ob} (h : o.ok F w) (l : F.le G) : o.ok G w := by
  cases o with
  | box g' e cs => exact h
  | row t e v xs => obtain ⟨css, h1, h2⟩ := h; exact ⟨css, h1.mono l, h2⟩
  | deep t bs cs x => exact t.mono l h

structure St (X : List Nat) (w0 : World) (F0 F : Frz) (L : List Ob) (w : World) : Prop where
  os : w.os = w0.os
  tape : w.tape = w0.tape
  output : w.output = w0.output
  drawn : w0.drawn ≤ w.drawn
  size : w0.heap.size ≤ w.heap.size
  keep : ∀ b, b < w0.heap.size → b ∉ X → w.heap[b]? = w0.heap[b]?
  agree : Agree F w.heap
  ext : F0.le F
  new : ∀ a u, F a = some u → F0 a = some u ∨ w0.heap.size ≤ a.block ∨ a.block ∈ X
  own : ∀ (i : Nat) (o : Ob), L[i]? = some o → o.ok F w ∧ ∀ g, g ∈ o.blks → (∀ a : Addr, a.block = g → F a = none) ∧ (w0.heap.size ≤ g ∨ g ∈ X)
  apart : ∀ (i j : Nat) (o o' : Ob) (g : Nat), L[i]? = some o → L[j]? = some o' → g ∈ o.blks → g ∈ o'.blks → i = j

theorem St.entry {F : Frz} {w : World} (h : Agree F w.heap) : St [] w F F [] w :=
  ⟨rfl, rfl, rfl, Nat.le_refl _, Nat.le_refl _, fun _ _ _ => rfl, h, Frz.le.refl _, fun _ _ h => .inl h, fun i o h => by simp at h, fun i j o o' g h => by simp at h⟩
theorem St.below0 {w0 w : World} {F0 F : Frz} {L : List Ob} (h : St [] w0 F0 F L w) : Below w0.heap.size w0 w := ⟨h.os, h.tape, h.output, h.size, fun k hk => h.keep k hk (by simp), h.drawn⟩

section
variable {X : List Nat} {w0 w w' : World} {F0 F F' : Frz} {L Lr : List Ob}
theorem St.ok (h : St X w0 F0 F L w) {i : Nat} {o : Ob} (hi : L[i]? = some o) : o.ok F w := (h.own i o hi).1
theorem St.call (h : St X w0 F0 F L w) (k : St [] w F F' Lr w') : St X w0 F0 F' (Lr ++ L) w' := by
  have hkeep : ∀ b, b < w.heap.size → w'.heap[b]? = w.heap[b]? := fun b hb => k.keep b hb (by simp)
  have hL : ∀ (i : Nat) (o : Ob), L[i]? = some o → o.ok F' w' ∧ ∀ g, g ∈ o.blks → (∀ a : Addr, a.block = g → F' a = none) ∧ (w0.heap.size ≤ g ∨ g ∈ X) := by
    intro i o hi
    obtain ⟨h1, h2⟩ := h.own i o hi
    refine ⟨(h1.frame fun g hg => hkeep g (h1.lt hg)).mono k.ext, fun g hg => ⟨fun a ha => ?_, (h2 g hg).2⟩⟩
    cases hF : F' a with
    | none => rfl
    | some u =>
      rcases k.new a u hF with h3 | h3 | h3
      · rw [(h2 g hg).1 a ha] at h3; cases h3
      · have := h1.lt hg; omega
      · simp at h3
  have hR : ∀ (i : Nat) (o : Ob), Lr[i]? = some o → ∀ g, g ∈ o.blks → w.heap.size ≤ g := fun i o hi g hg => by
    rcases ((k.own i o hi).2 g hg).2 with h3 | h3
    · exact h3
    · simp at h3
  refine ⟨k.os.trans h.os, k.tape.trans h.tape, k.output.trans h.output, Nat.le_trans h.drawn k.drawn, Nat.le_trans h.size k.size, fun b hb hx => (hkeep b (Nat.lt_of_lt_of_le hb h.size)).trans (h.keep b hb hx), k.agree, h.ext.trans k.ext, fun a u e => ?_, fun i o hi => ?_, fun i j o o' g hi hj ho ho' => ?_⟩
  · rcases k.new a u e with h3 | h3 | h3
    · exact h.new a u h3
    · exact .inr (.inl (Nat.le_trans h.size h3))
    · simp at h3
  · by_cases hl : i < Lr.length
    · rw [List.getElem?_append_left hl] at hi
      obtain ⟨h1, h2⟩ := k.own i o hi
      exact ⟨h1, fun g hg => ⟨(h2 g hg).1, .inl (Nat.le_trans h.size (hR i o hi g hg))⟩⟩
    · rw [List.getElem?_append_right (by omega)] at hi
      exact hL _ o hi
  · by_cases hl : i < Lr.length <;> by_cases hm : j < Lr.length
    · rw [List.getElem?_append_left hl] at hi
      rw [List.getElem?_append_left hm] at hj
      exact k.apart i j o o' g hi hj ho ho'
    · rw [List.getElem?_append_left hl] at hi
      rw [List.getElem?_append_right (by omega)] at hj
      have h1 := hR i o hi g ho
      have h2 := (h.ok hj).lt ho'
      omega
    · rw [List.getElem?_append_right (by omega)] at hi
      rw [List.getElem?_append_left hm] at hj
      have h1 := hR j o' hj g ho'
      have h2 := (h.ok hi).lt ho
      omega
    · rw [List.getElem?_append_right (by omega)] at hi hj
      have := h.apart _ _ o o' g hi hj ho ho'
      omega
/-- a call whose results lie nowhere: what was lent comes back -/
theorem St.lent {G G' : Frz} (h : St X w0 F0 F L w) (k : St [] w G G' Lr w') : St X w0 F0 F L w' := by
  have hb := k.below0
  have e : St [] w F F [] w' := ⟨k.os, k.tape, k.output, k.drawn, k.size, fun b hb' hx => k.keep b hb' hx, h.agree.below hb, Frz.le.refl _, fun _ _ q => .inl q, fun i o hi => by simp at hi, fun i j o o' g hi => by simp at hi⟩
  simpa using h.call e
theorem St.below (h : St X w0 F0 F L w) (hb : Below w.heap.size w w') : St X w0 F0 F L w' := by
  have e : St [] w F F [] w' := ⟨hb.os, hb.tape, hb.output, hb.drawn, hb.size, fun b hb' hx => hb.block b hb', h.agree.below hb, Frz.le.refl _, fun _ _ q => .inl q, fun i o hi => by simp at hi, fun i j o o' g hi => by simp at hi⟩
  simpa using h.call e
theorem St.fresh (h : St X w0 F0 F L w) {o : Ob} (hb : Below w.heap.size w w') (ho : o.ok F w') (hg : ∀ g, g ∈ o.blks → w.heap.size ≤ g) : St X w0 F0 F (o :: L) w' := by
  have e : St [] w F F [o] w' := ⟨hb.os, hb.tape, hb.output, hb.drawn, hb.size, fun b hb' hx => hb.block b hb', h.agree.below hb, Frz.le.refl _, fun _ _ q => .inl q, fun i o' hi => by
      have : i = 0 := by have := (List.getElem?_eq_some_iff.1 hi).1; simpa using this
      subst this
      simp at hi; subst hi
      refine ⟨ho, fun g hg' => ⟨fun a ha => ?_, .inl (hg g hg')⟩⟩
      cases hF : F a with
      | none => rfl
      | some u => have := hc_lt (h.agree a u hF); have := hg g hg'; omega, fun i j o o' g hi hj _ _ => by
      have := (List.getElem?_eq_some_iff.1 hi).1; have := (List.getElem?_eq_some_iff.1 hj).1; simp at *; omega⟩
  simpa using h.call e
theorem St.nilRow {α : Type} (h : St X w0 F0 F L w) (t : Tr α) (e : TypeId) : St X w0 F0 F (.row t e (.slice none 0 0) [] :: L) w :=
  h.fresh (Below.refl _ _) ⟨[], ⟨rfl, fun i d x hi _ => by simp at hi⟩, Ow.nil _ _ _ _ _ (fun d => d.2)⟩ (fun g hg => by cases hg)
theorem St.pick (h : St X w0 F0 F L w) (is : List Nat) (hnd : is.Nodup) : St X w0 F0 F (is.filterMap fun i => L[i]?) w := by
  have key : ∀ (is : List Nat), is.Nodup → ∃ f : Nat → Nat, (∀ j o, (is.filterMap fun i => L[i]?)[j]? = some o → f j ∈ is ∧ L[f j]? = some o) ∧ ∀ j j' o o', (is.filterMap fun i => L[i]?)[j]? = some o → (is.filterMap fun i => L[i]?)[j']? = some o' → f j = f j' → j = j' := by
    intro is
    induction is with
    | nil => intro _; exact ⟨id, fun j o h => by simp at h, fun j j' o o' h => by simp at h⟩
    | cons a r ih =>
      intro hnd
      obtain ⟨hna, hnr⟩ := List.nodup_cons.1 hnd
      obtain ⟨f, h1, h2⟩ := ih hnr
      cases ha : L[a]? with
      | none => simp only [List.filterMap_cons, ha]; exact ⟨f, fun j o hj => ⟨List.mem_cons_of_mem _ (h1 j o hj).1, (h1 j o hj).2⟩, h2⟩
      | some x =>
        simp only [List.filterMap_cons, ha]
        refine ⟨fun j => match j with | 0 => a | j + 1 => f j, fun j o hj => ?_, fun j j' o o' hj hj' e => ?_⟩
        · cases j with
          | zero => simp at hj; subst hj; exact ⟨by simp, ha⟩
          | succ j => have := h1 j o (by simpa using hj); exact ⟨List.mem_cons_of_mem _ this.1, this.2⟩
        · cases j with
          | zero => cases j' with
            | zero => rfl
            | succ j' => have := (h1 j' o' (by simpa using hj')).1; simp only at e; rw [← e] at this; exact absurd this hna
          | succ j => cases j' with
            | zero => have := (h1 j o (by simpa using hj)).1; simp only at e; rw [e] at this; exact absurd this hna
            | succ j' => simp only at e; rw [h2 j j' o o' (by simpa using hj) (by simpa using hj') e]
  obtain ⟨f, h1, h2⟩ := key is hnd
  exact ⟨h.os, h.tape, h.output, h.drawn, h.size, h.keep, h.agree, h.ext, h.new, fun i o hi => h.own (f i) o (h1 i o hi).2, fun i j o o' g hi hj ho ho' => h2 i j o o' hi hj (h.apart _ _ o o' g (h1 i o hi).2 (h1 j o' hj).2 ho ho')⟩
/-- all but some blocks stay -/
structure GbL (w w' : World) (bs : List Nat) : Prop where
  os : w'.os = w.os
  tape : w'.tape = w.tape
  output : w'.output = w.output
  size : w.heap.size ≤ w'.heap.size
  block : ∀ k, k < w.heap.size → k ∉ bs → w'.heap[k]? = w.heap[k]?
  drawn : w.drawn ≤ w'.drawn
theorem Gb.toL {w w' : World} {b : Option Nat} (h : Gb w w' b) : GbL w w' b.toList := ⟨h.os, h.tape, h.output, h.size, fun k hk hb => h.block k hk (fun e => hb (by rw [← e]; simp)), h.drawn⟩
theorem GbL.refl (w : World) (bs : List Nat) : GbL w w bs := ⟨rfl, rfl, rfl, Nat.le_refl _, fun _ _ _ => rfl, Nat.le_refl _⟩
/-- an object turns: its blocks, or new ones in their stead -/
theorem St.putL (h : St X w0 F0 F L w) {i : Nat} {o : Ob} (o' : Ob) (hi : L[i]? = some o) (hG : GbL w w' o.blks) (hok : o'.ok F w') (hbk : ∀ g, g ∈ o'.blks → g ∈ o.blks ∨ w.heap.size ≤ g) : St X w0 F0 F (L.set i o') w' := by
  obtain ⟨ho, hog⟩ := h.own i o hi
  have hil := (List.getElem?_eq_some_iff.1 hi).1
  have hsame : ∀ b, b < w.heap.size → b ∉ o.blks → w'.heap[b]? = w.heap[b]? := fun b hb hbg => hG.block b hb hbg
  have hF : ∀ a u, F a = some u → a.block ∉ o.blks := fun a u e hb => by rw [(hog _ hb).1 a rfl] at e; cases e
  have hag : Agree F w'.heap := fun a u e => by
    have h1 := h.agree a u e
    rw [← h1]
    exact hc_of_block (hsame _ (hc_lt h1) (hF a u e))
  refine ⟨hG.os.trans h.os, hG.tape.trans h.tape, hG.output.trans h.output, Nat.le_trans h.drawn hG.drawn, Nat.le_trans h.size hG.size, fun b hb hx => ?_, hag, h.ext, h.new, fun j p hj => ?_, fun j k p p' g hj hk hp hp' => ?_⟩
  · rw [hsame b (Nat.lt_of_lt_of_le hb h.size) (fun e => by
      rcases (hog b e).2 with h3 | h3
      · omega
      · exact hx h3)]
    exact h.keep b hb hx
  · rw [List.getElem?_set] at hj
    split at hj
    · rename_i hij
      try rw [if_pos hil] at hj
      obtain rfl := Option.some.inj hj
      refine ⟨hok, fun g hg => ?_⟩
      rcases hbk g hg with hbk | hbk
      · exact hog g hbk
      · refine ⟨fun a ha => ?_, .inl (Nat.le_trans h.size hbk)⟩
        cases hFa : F a with
        | none => rfl
        | some u => have := hc_lt (h.agree a u hFa); omega
    · rename_i hij
      obtain ⟨h1, h2⟩ := h.own j p hj
      exact ⟨h1.frame fun g hg => hsame g (h1.lt hg) (fun e => hij (h.apart i j o p g hi hj e hg)), h2⟩
  · rw [List.getElem?_set] at hj hk
    split at hj <;> split at hk
    · omega
    · rename_i hij hik
      try rw [if_pos hil] at hj
      obtain rfl := Option.some.inj hj
      rcases hbk g hp with hbk | hbk
      · have := h.apart i k o p' g hi hk hbk hp'; omega
      · have := (h.ok hk).lt hp'; omega
    · rename_i hij hik
      try rw [if_pos hil] at hk
      obtain rfl := Option.some.inj hk
      rcases hbk g hp' with hbk | hbk
      · have := h.apart j i p o g hj hi hp hbk; omega
      · have := (h.ok hj).lt hp; omega
    · exact h.apart j k p p' g hj hk hp hp'
/-- an object of one block at most turns -/
theorem St.put (h : St X w0 F0 F L w) {i : Nat} {o : Ob} (o' : Ob) (hi : L[i]? = some o) {b : Option Nat} (hG : Gb w w' b) (hok : o'.ok F w') (hbk : o'.blks = o.blks ∨ (∀ g, g ∈ o'.blks → w.heap.size ≤ g)) (hb : o.blks = b.toList := by rfl) : St X w0 F0 F (L.set i o') w' :=
  h.putL o' hi (hb ▸ hG.toL) hok fun g hg => by
    rcases hbk with hbk | hbk
    · exact .inl (hbk ▸ hg)
    · exact .inr (hbk g hg)
theorem El.of_row {α : Type} {t : Tr α} {e : TypeId} {v : Value} {xs : List α} {i : Nat} {x : α} (h : Ob.ok F w (.row t e v xs)) (hi : xs[i]? = some x) : ∃ cs, t.rel F cs x ∧ El w.heap v t.size i cs := by
  obtain ⟨css, h1, h2⟩ := h
  have hl := (List.getElem?_eq_some_iff.1 hi).1
  have hd := List.getElem?_eq_getElem (l := css) (i := i) (by rw [h1.1]; exact hl)
  have hr := h1.2 _ _ _ hd hi
  obtain ⟨_, ao, c, e1, e2, e3, e4, e5⟩ := h2.sl
  cases ao with
  | none => have := e4 rfl; have := h1.1; omega
  | some ad => exact ⟨_, hr, t.len hr, ad, _, c, e1, by rw [h1.1]; exact hl, fun q u hq => (e5 ad rfl).1 i _ q u hd hq⟩
theorem St.rowAt {α : Type} {t : Tr α} {e : TypeId} {v : Value} {xs : List α} {k i : Nat} {x : α} (h : St X w0 F0 F L w) (hk : L[k]? = some (.row t e v xs)) (hi : xs[i]? = some x) : ∃ cs, t.rel F cs x ∧ El w.heap v t.size i cs := El.of_row (h.ok hk) hi
theorem St.rowLn {α : Type} {t : Tr α} {e : TypeId} {v : Value} {xs : List α} {k : Nat} (h : St X w0 F0 F L w) (hk : L[k]? = some (.row t e v xs)) : Ln v xs.length := by
  obtain ⟨css, h1, h2⟩ := h.ok hk
  obtain ⟨_, ao, c, e1, e2, e3, e4, _⟩ := h2.sl
  rw [h1.1] at e1 e2
  exact ⟨ao, c, e1, by omega, e2, e4⟩
/-- everything as it is now -/
abbrev now (w : World) : Frz := hc w.heap
theorem now_agree (w : World) : Agree (now w) w.heap := fun _ _ h => h
theorem slF_of_ow {α : Type} {t : Tr α} {e : TypeId} {v : Value} {xs : List α} {G : Frz} (h : Ob.ok F w (.row t e v xs)) (l : F.le G) (hG : ∀ g, v.ownBlock = some g → ∀ a u, a.block = g → hc w.heap a = some u → G a = some u) : SlF t G v xs := by
  obtain ⟨css, h1, h2⟩ := h
  obtain ⟨_, ao, c, e1, e2, e3, e4, e5⟩ := h2.sl
  refine ⟨css, h1.mono l, ao, c, e1, e2, e3, e4, fun ad had i d j u hi hj => ?_⟩
  have h3 := (e5 ad had).1 i d j u hi hj
  refine hG ad.block ?_ _ u (by rw [Addr.block_add]) h3
  subst had; rw [e1]; rfl
theorem St.rowNow {α : Type} {t : Tr α} {e : TypeId} {v : Value} {xs : List α} {k : Nat} (h : St X w0 F0 F L w) (hk : L[k]? = some (.row t e v xs)) : SlF t (now w) v xs :=
  slF_of_ow (h.ok hk) (fun a u e => h.agree a u e) fun _ _ _ _ _ q => q
/-- an own row is frozen -/
theorem St.freeze {α : Type} {t : Tr α} {e : TypeId} {v : Value} {xs : List α} (k : Nat) (is : List Nat) (h : St X w0 F0 F L w) (hk : L[k]? = some (.row t e v xs)) (hnd : is.Nodup) (hki : k ∉ is) :
    ∃ F', F.le F' ∧ SlF t F' v xs ∧ St X w0 F0 F' (is.filterMap fun i => L[i]?) w := by
  obtain ⟨hok, hog0⟩ := h.own k _ hk
  have hog : ∀ g, v.ownBlock = some g → (∀ a : Addr, a.block = g → F a = none) ∧ (w0.heap.size ≤ g ∨ g ∈ X) := fun g hg => hog0 g (by simp [Ob.blks, hg])
  have hle : F.le (fun a => match F a with | some u => some u | none => if v.ownBlock = some a.block then hc w.heap a else none) := fun a u e => by simp only [e]
  refine ⟨fun a => match F a with | some u => some u | none => if v.ownBlock = some a.block then hc w.heap a else none, hle, slF_of_ow hok hle (fun g hg a u ha hu => ?_), ?_⟩
  · simp only [(hog g hg).1 a ha]
    rw [ha, if_pos hg]; exact hu
  · have hp := h.pick is hnd
    have hF' : ∀ a u, (match F a with | some u => some u | none => if v.ownBlock = some a.block then hc w.heap a else none) = some u → F a = some u ∨ (v.ownBlock = some a.block ∧ hc w.heap a = some u) := by
      intro a u e
      cases hF : F a with
      | some u' => rw [hF] at e; exact .inl e
      | none =>
        rw [hF] at e
        simp only at e
        split at e
        · exact .inr ⟨by assumption, e⟩
        · cases e
    refine ⟨hp.os, hp.tape, hp.output, hp.drawn, hp.size, hp.keep, fun a u e => ?_, hp.ext.trans hle, fun a u e => ?_, fun i o hi => ?_, hp.apart⟩
    · rcases hF' a u e with h1 | ⟨_, h1⟩
      · exact h.agree a u h1
      · exact h1
    · rcases hF' a u e with h1 | ⟨h1, _⟩
      · exact h.new a u h1
      · exact .inr (hog _ h1).2
    · obtain ⟨h1, h2⟩ := hp.own i o hi
      refine ⟨h1.mono hle, fun g hg => ⟨fun a ha => ?_, (h2 g hg).2⟩⟩
      simp only [(h2 g hg).1 a ha]
      rw [if_neg]
      intro hv
      rw [ha] at hv
      have hm : o ∈ is.filterMap fun i => L[i]? := List.mem_of_getElem? hi
      obtain ⟨i', hi', hLi'⟩ := List.mem_filterMap.1 hm
      have := h.apart k i' _ o g hk hLi' (by simp [Ob.blks, hv]) hg
      exact hki (this ▸ hi')
theorem pick_idx (L : List Ob) : ∀ (is : List Nat), is.Nodup → ∃ f : Nat → Nat, (∀ j o, (is.filterMap fun i => L[i]?)[j]? = some o → f j ∈ is ∧ L[f j]? = some o) ∧ ∀ j j' o o', (is.filterMap fun i => L[i]?)[j]? = some o → (is.filterMap fun i => L[i]?)[j']? = some o' → f j = f j' → j = j' := by
  intro is
  induction is with
  | nil => intro _; exact ⟨id, fun j o h => by simp at h, fun j j' o o' h => by simp at h⟩
  | cons a r ih =>
    intro hnd
    obtain ⟨hna, hnr⟩ := List.nodup_cons.1 hnd
    obtain ⟨f, h1, h2⟩ := ih hnr
    cases ha : L[a]? with
    | none => simp only [List.filterMap_cons, ha]; exact ⟨f, fun j o hj => ⟨List.mem_cons_of_mem _ (h1 j o hj).1, (h1 j o hj).2⟩, h2⟩
    | some x =>
      simp only [List.filterMap_cons, ha]
      refine ⟨fun j => match j with | 0 => a | j + 1 => f j, fun j o hj => ?_, fun j j' o o' hj hj' e => ?_⟩
      · cases j with
        | zero => simp at hj; subst hj; exact ⟨by simp, ha⟩
        | succ j => have := h1 j o (by simpa using hj); exact ⟨List.mem_cons_of_mem _ this.1, this.2⟩
      · cases j with
        | zero => cases j' with
          | zero => rfl
          | succ j' => have := (h1 j' o' (by simpa using hj')).1; simp only at e; rw [← e] at this; exact absurd this hna
        | succ j => cases j' with
          | zero => have := (h1 j o (by simpa using hj)).1; simp only at e; rw [e] at this; exact absurd this hna
          | succ j' => simp only at e; rw [h2 j j' o o' (by simpa using hj) (by simpa using hj') e]
/-- one object takes another up -/
theorem St.turn2 (h : St X w0 F0 F L w) {i j : Nat} {o o1 : Ob} (o' : Ob) (is : List Nat) (hi : L[i]? = some o) (hj : L[j]? = some o1) (hnd : is.Nodup) (hji : j ∉ is) (hG : GbL w w' (o.blks ++ o1.blks)) (hok : o'.ok F w') (hbk : ∀ g, g ∈ o'.blks → g ∈ o.blks ∨ g ∈ o1.blks ∨ w.heap.size ≤ g) : St X w0 F0 F (is.filterMap fun k => (L.set i o')[k]?) w' := by
  obtain ⟨ho, hog⟩ := h.own i o hi
  obtain ⟨ho1, hog1⟩ := h.own j o1 hj
  have hil := (List.getElem?_eq_some_iff.1 hi).1
  have hb2 : ∀ b, b ∈ o.blks ++ o1.blks → (∀ a : Addr, a.block = b → F a = none) ∧ (w0.heap.size ≤ b ∨ b ∈ X) := fun b hb => by
    rcases List.mem_append.1 hb with hb | hb
    · exact hog b hb
    · exact hog1 b hb
  have hF : ∀ a u, F a = some u → a.block ∉ o.blks ++ o1.blks := fun a u e hb => by rw [(hb2 _ hb).1 a rfl] at e; cases e
  have hag : Agree F w'.heap := fun a u e => by
    have h1 := h.agree a u e
    rw [← h1]
    exact hc_of_block (hG.block _ (hc_lt h1) (hF a u e))
  obtain ⟨f, f1, f2⟩ := pick_idx (L.set i o') is hnd
  have fp : ∀ k p, (is.filterMap fun k => (L.set i o')[k]?)[k]? = some p → (f k = i ∧ p = o') ∨ (f k ≠ i ∧ f k ≠ j ∧ L[f k]? = some p) := fun k p hk => by
    obtain ⟨g1, g2⟩ := f1 k p hk
    rw [List.getElem?_set] at g2
    split at g2
    · rename_i e
      try rw [if_pos hil] at g2
      exact .inl ⟨e.symm, (Option.some.inj g2).symm⟩
    · rename_i e
      exact .inr ⟨fun e' => e e'.symm, fun e' => hji (e' ▸ g1), g2⟩
  refine ⟨hG.os.trans h.os, hG.tape.trans h.tape, hG.output.trans h.output, Nat.le_trans h.drawn hG.drawn, Nat.le_trans h.size hG.size, fun b hb hx => ?_, hag, h.ext, h.new, fun k p hk => ?_, fun k q p p' g hk hq hp hp' => ?_⟩
  · rw [hG.block b (Nat.lt_of_lt_of_le hb h.size) (fun e => by
      rcases (hb2 b e).2 with h3 | h3
      · omega
      · exact hx h3)]
    exact h.keep b hb hx
  · rcases fp k p hk with ⟨_, rfl⟩ | ⟨e1, e2, e3⟩
    · refine ⟨hok, fun g hg => ?_⟩
      rcases hbk g hg with hb | hb | hb
      · exact hog g hb
      · exact hog1 g hb
      · refine ⟨fun a ha => ?_, .inl (Nat.le_trans h.size hb)⟩
        cases hFa : F a with
        | none => rfl
        | some u => have := hc_lt (h.agree a u hFa); omega
    · obtain ⟨h1, h2⟩ := h.own _ p e3
      refine ⟨h1.frame fun g hg => hG.block g (h1.lt hg) (fun e => ?_), h2⟩
      rcases List.mem_append.1 e with e | e
      · exact e1 (h.apart i _ o p g hi e3 e hg).symm
      · exact e2 (h.apart j _ o1 p g hj e3 e hg).symm
  · have cross : ∀ k q p p', (is.filterMap fun k => (L.set i o')[k]?)[k]? = some p → (is.filterMap fun k => (L.set i o')[k]?)[q]? = some p' → f k = i → f q ≠ i → g ∈ p.blks → g ∈ p'.blks → False := fun k q p p' hk hq ek eq hp hp' => by
      rcases fp k p hk with ⟨_, rfl⟩ | ⟨e1, _⟩
      · rcases fp q p' hq with ⟨e2, _⟩ | ⟨e2, e3, e4⟩
        · exact eq e2
        · rcases hbk g hp with hb | hb | hb
          · exact e2 (h.apart i _ o p' g hi e4 hb hp').symm
          · exact e3 (h.apart j _ o1 p' g hj e4 hb hp').symm
          · have := (h.ok e4).lt hp'; omega
      · exact e1 ek
    by_cases hki : f k = i <;> by_cases hqi : f q = i
    · exact f2 k q p p' hk hq (hki.trans hqi.symm)
    · exact (cross k q p p' hk hq hki hqi hp hp').elim
    · exact (cross q k p' p hq hk hqi hki hp' hp).elim
    · rcases fp k p hk with ⟨e1, _⟩ | ⟨_, _, e3⟩
      · exact absurd e1 hki
      · rcases fp q p' hq with ⟨e1, _⟩ | ⟨_, _, e4⟩
        · exact absurd e1 hqi
        · exact f2 k q p p' hk hq (h.apart _ _ p p' g e3 e4 hp hp')
/-- one object is parted into two -/
theorem St.part (h : St X w0 F0 F L w) {i : Nat} {o : Ob} (o1 o2 : Ob) (hi : L[i]? = some o) (h1 : o1.ok F w) (h2 : o2.ok F w) (hb1 : ∀ g, g ∈ o1.blks → g ∈ o.blks) (hb2 : ∀ g, g ∈ o2.blks → g ∈ o.blks) (hd : ∀ g, g ∈ o1.blks → g ∉ o2.blks) : St X w0 F0 F (o1 :: L.set i o2) w := by
  have hp := h.putL o2 hi (GbL.refl w _) h2 fun g hg => .inl (hb2 g hg)
  obtain ⟨ho, hog⟩ := h.own i o hi
  have hx : ∀ (q : Nat) (p : Ob) (g : Nat), (L.set i o2)[q]? = some p → g ∈ o1.blks → g ∈ p.blks → False := fun q p g hq hg hgp => by
    rw [List.getElem?_set] at hq
    split at hq
    · rename_i e
      try rw [if_pos (List.getElem?_eq_some_iff.1 hi).1] at hq
      obtain rfl := Option.some.inj hq
      exact hd g hg hgp
    · rename_i e
      exact e (h.apart i q o p g hi hq (hb1 g hg) hgp)
  refine ⟨hp.os, hp.tape, hp.output, hp.drawn, hp.size, hp.keep, hp.agree, hp.ext, hp.new, fun q p hq => ?_, fun q q' p p' g hq hq' hg hg' => ?_⟩
  · cases q with
    | zero => simp at hq; subst hq; exact ⟨h1, fun g hg => hog g (hb1 g hg)⟩
    | succ q => exact hp.own q p (by simpa using hq)
  · cases q with
    | zero =>
      simp at hq; subst hq
      cases q' with
      | zero => rfl
      | succ q' => exact (hx q' p' g (by simpa using hq') hg hg').elim
    | succ q =>
      cases q' with
      | zero => simp at hq'; subst hq'; exact (hx q p g (by simpa using hq) hg' hg).elim
      | succ q' => rw [hp.apart q q' p p' g (by simpa using hq) (by simpa using hq') hg hg']
/-- objects are lent to a call -/
theorem St.lend (h : St X w0 F0 F L w) (is : List Nat) (hnd : is.Nodup) (Y : List Nat) (hY : ∀ (i : Nat) (o : Ob) (g : Nat), i ∈ is → L[i]? = some o → g ∈ o.blks → g ∈ Y) : St Y w F F (is.filterMap fun i => L[i]?) w := by
  have hp := h.pick is hnd
  refine ⟨rfl, rfl, rfl, Nat.le_refl _, Nat.le_refl _, fun _ _ _ => rfl, h.agree, Frz.le.refl _, fun _ _ e => .inl e, fun i o hi => ?_, hp.apart⟩
  obtain ⟨h1, h2⟩ := hp.own i o hi
  refine ⟨h1, fun g hg => ⟨(h2 g hg).1, .inr ?_⟩⟩
  have hm : o ∈ is.filterMap fun i => L[i]? := List.mem_of_getElem? hi
  obtain ⟨i', hi', hL⟩ := List.mem_filterMap.1 hm
  exact hY i' o g hi' hL hg
/-- and come back, turned -/
theorem St.callX (h : St X w0 F0 F L w) (is rs : List Nat) (Y : List Nat) (hnd : rs.Nodup) (hY : ∀ g, g ∈ Y → ∃ i o, i ∈ is ∧ L[i]? = some o ∧ g ∈ o.blks) (hrs : ∀ i, i ∈ rs → i ∉ is) (k : St Y w F F' Lr w') : St X w0 F0 F' (Lr ++ rs.filterMap fun i => L[i]?) w' := by
  have hp := h.pick rs hnd
  have hYo : ∀ g, g ∈ Y → (∀ a : Addr, a.block = g → F a = none) ∧ (w0.heap.size ≤ g ∨ g ∈ X) ∧ g < w.heap.size := fun g hg => by
    obtain ⟨i, o, _, hL, ho⟩ := hY g hg
    exact ⟨((h.own i o hL).2 g ho).1, ((h.own i o hL).2 g ho).2, (h.ok hL).lt ho⟩
  have hkeep : ∀ b, b < w.heap.size → b ∉ Y → w'.heap[b]? = w.heap[b]? := fun b hb hx => k.keep b hb hx
  have hP : ∀ (i : Nat) (o : Ob), (rs.filterMap fun i => L[i]?)[i]? = some o → ∀ g, g ∈ o.blks → g ∉ Y := fun i o hi g hg hgY => by
    have hm : o ∈ rs.filterMap fun i => L[i]? := List.mem_of_getElem? hi
    obtain ⟨i', hi', hL⟩ := List.mem_filterMap.1 hm
    obtain ⟨j, o2, hj, hL2, ho2⟩ := hY g hgY
    have := h.apart i' j o o2 g hL hL2 hg ho2
    exact hrs i' hi' (this ▸ hj)
  have hL : ∀ (i : Nat) (o : Ob), (rs.filterMap fun i => L[i]?)[i]? = some o → o.ok F' w' ∧ ∀ g, g ∈ o.blks → (∀ a : Addr, a.block = g → F' a = none) ∧ (w0.heap.size ≤ g ∨ g ∈ X) := by
    intro i o hi
    obtain ⟨h1, h2⟩ := hp.own i o hi
    refine ⟨(h1.frame fun g hg => hkeep g (h1.lt hg) (hP i o hi g hg)).mono k.ext, fun g hg => ⟨fun a ha => ?_, (h2 g hg).2⟩⟩
    cases hF : F' a with
    | none => rfl
    | some u =>
      rcases k.new a u hF with h3 | h3 | h3
      · rw [(h2 g hg).1 a ha] at h3; cases h3
      · have := h1.lt hg; omega
      · rw [ha] at h3; exact absurd h3 (hP i o hi g hg)
  have hR : ∀ (i : Nat) (o : Ob), Lr[i]? = some o → ∀ g, g ∈ o.blks → w.heap.size ≤ g ∨ g ∈ Y := fun i o hi g hg => ((k.own i o hi).2 g hg).2
  refine ⟨k.os.trans h.os, k.tape.trans h.tape, k.output.trans h.output, Nat.le_trans h.drawn k.drawn, Nat.le_trans h.size k.size, fun b hb hx => ?_, k.agree, h.ext.trans k.ext, fun a u e => ?_, fun i o hi => ?_, fun i j o o' g hi hj ho ho' => ?_⟩
  · rw [hkeep b (Nat.lt_of_lt_of_le hb h.size) (fun hy => by
      rcases (hYo b hy).2.1 with h3 | h3
      · omega
      · exact hx h3)]
    exact h.keep b hb hx
  · rcases k.new a u e with h3 | h3 | h3
    · exact h.new a u h3
    · exact .inr (.inl (Nat.le_trans h.size h3))
    · exact .inr (hYo _ h3).2.1
  · by_cases hl : i < Lr.length
    · rw [List.getElem?_append_left hl] at hi
      obtain ⟨h1, h2⟩ := k.own i o hi
      refine ⟨h1, fun g hg => ⟨(h2 g hg).1, ?_⟩⟩
      rcases hR i o hi g hg with h3 | h3
      · exact .inl (Nat.le_trans h.size h3)
      · exact (hYo g h3).2.1
    · rw [List.getElem?_append_right (by omega)] at hi
      exact hL _ o hi
  · have cross : ∀ (i j : Nat) (o o' : Ob), Lr[i]? = some o → (rs.filterMap fun i => L[i]?)[j]? = some o' → g ∈ o.blks → g ∈ o'.blks → False := by
      intro i j o o' hi hj ho ho'
      rcases hR i o hi g ho with h3 | h3
      · have := (hp.ok hj).lt ho'; omega
      · exact hP j o' hj g ho' h3
    by_cases hl : i < Lr.length <;> by_cases hm : j < Lr.length
    · rw [List.getElem?_append_left hl] at hi
      rw [List.getElem?_append_left hm] at hj
      exact k.apart i j o o' g hi hj ho ho'
    · rw [List.getElem?_append_left hl] at hi
      rw [List.getElem?_append_right (by omega)] at hj
      exact (cross i _ o o' hi hj ho ho').elim
    · rw [List.getElem?_append_right (by omega)] at hi
      rw [List.getElem?_append_left hm] at hj
      exact (cross j _ o' o hj hi ho' ho).elim
    · rw [List.getElem?_append_right (by omega)] at hi hj
      have := hp.apart _ _ o o' g hi hj ho ho'
      omega
theorem St.freshR (h : St X w0 F0 F L w) {α : Type} {t : Tr α} {e : TypeId} {v : Value} {xs : List α} (hb : Below w.heap.size w w') (ho : Ob.ok F w' (.row t e v xs)) (hg : ∀ g, v.ownBlock = some g → w.heap.size ≤ g) : St X w0 F0 F (.row t e v xs :: L) w' :=
  h.fresh hb ho fun g hg' => hg g (mem_row.1 hg')
/-- objects are lent, by their places -/
theorem St.lendL (h : St X w0 F0 F L w) (is : List Nat) (hnd : is.Nodup) : St ((is.filterMap fun i => L[i]?).flatMap Ob.blks) w F F (is.filterMap fun i => L[i]?) w :=
  h.lend is hnd _ fun i o g hi hL hg => List.mem_flatMap.2 ⟨o, List.mem_filterMap.2 ⟨i, hi, hL⟩, hg⟩
theorem St.backL (h : St X w0 F0 F L w) (is rs : List Nat) (hnd : rs.Nodup) (hd : ∀ i, i ∈ rs → i ∉ is) (k : St ((is.filterMap fun i => L[i]?).flatMap Ob.blks) w F F' Lr w') : St X w0 F0 F' (Lr ++ rs.filterMap fun i => L[i]?) w' :=
  h.callX is rs _ hnd (fun g hg => by
    obtain ⟨o, ho, hgo⟩ := List.mem_flatMap.1 hg
    obtain ⟨i, hi, hL⟩ := List.mem_filterMap.1 ho
    exact ⟨i, o, hi, hL, hgo⟩) hd k
theorem St.congrX {Y : List Nat} (h : St X w0 F0 F L w) (he : ∀ g, g ∈ X ↔ g ∈ Y) : St Y w0 F0 F L w :=
  ⟨h.os, h.tape, h.output, h.drawn, h.size, fun b hb hx => h.keep b hb (fun hy => hx ((he b).1 hy)), h.agree, h.ext, fun a u e => (h.new a u e).imp id fun q => q.imp id fun r => (he _).1 r, fun i o hi => ⟨(h.own i o hi).1, fun g hg => ⟨((h.own i o hi).2 g hg).1, ((h.own i o hi).2 g hg).2.imp id fun r => (he _).1 r⟩⟩, h.apart⟩
end
end Go.Wk
