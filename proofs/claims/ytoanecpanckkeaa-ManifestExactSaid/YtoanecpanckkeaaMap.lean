/- Values that own memory: rows, frozen things, maps; rules for maps that the call owns. -/
import Derived.Test.YtoanecpanckkeaaLop
import Derived.MapKept
import Derived.Carry
namespace Go.Wk
open Go.RowKit
set_option linter.unusedVariables false

/-- a world of a heap alone -/
def heapW (h : Array Obj) : World := { heap := h, tape := fun _ _ => 0, drawn := 0, os := default, output := #[] }
/-- what owns nothing -/
def tFz {α : Type} (t : Tr α) : To α where
  size := t.size
  rel F h bs cs x := bs = [] ∧ t.rel F cs x
  len := fun ⟨_, h⟩ => t.len h
  one := fun ⟨_, h⟩ => t.one h
  lt := by rintro F h bs cs x ⟨rfl, _⟩ g hg; simp at hg
  nodup := by rintro F h bs cs x ⟨rfl, _⟩; simp
  mono := fun l ⟨e, h⟩ => ⟨e, t.mono l h⟩
  frame := fun h _ => h
/-- a row, as a value -/
def tRow {α : Type} (t : Tr α) (e : TypeId) : To (List α) where
  size := 1
  rel F h bs cs xs := ∃ v, cs = [v] ∧ bs = v.ownBlock.toList ∧ Ob.ok F (heapW h) (.row t e v xs)
  len := by rintro F h bs cs x ⟨v, rfl, _⟩; rfl
  one := by
    rintro F h bs cs x ⟨v, rfl, _, css, _, h2⟩ u hu
    simp at hu; subst hu
    obtain ⟨_, _, h3⟩ := h2
    rcases h3 with ⟨rfl, _⟩ | ⟨g, cap, cur, rfl, _⟩ <;> rfl
  lt := by rintro F h bs cs x ⟨v, rfl, rfl, h1⟩ g hg; exact h1.lt hg
  nodup := by rintro F h bs cs x ⟨v, rfl, rfl, _⟩; cases v.ownBlock <;> simp
  mono := by rintro F G h bs cs x l ⟨v, rfl, rfl, h1⟩; exact ⟨v, rfl, rfl, h1.mono l⟩
  frame := by rintro F h h' bs cs x ⟨v, rfl, rfl, h1⟩ hk; exact ⟨v, rfl, rfl, h1.frame hk⟩
theorem row_heapW {α : Type} {t : Tr α} {e : TypeId} {v : Value} {xs : List α} {F : Frz} {w : World} : Ob.ok F (heapW w.heap) (.row t e v xs) ↔ Ob.ok F w (.row t e v xs) :=
  ⟨fun h => h.frame (w' := w) fun g _ => rfl, fun h => h.frame (w' := heapW w.heap) fun g _ => rfl⟩

/-- keys of a type, as the model takes them -/
structure Kt (P : Program) (k : TypeId) (κ : Type) where
  enc : κ → Value
  ok : κ → Prop
  inj : ∀ {a b : κ}, ok a → ok b → enc a = enc b → a = b
  check : ∀ (w : World) (em : Bool) {a : κ}, ok a → (Instr.checkKey em 10000 k (enc a)).run P w = .ok () w
  find : ∀ (w : World) {a : κ}, ok a → ∀ es : List MapEntry, (∀ e ∈ es, ∃ b, ok b ∧ e.key = enc b) →
    ((Instr.findKey k (enc a) es).run P w = .ok none w ∧ ∀ e ∈ es, e.key ≠ enc a) ∨ ∃ j e, (Instr.findKey k (enc a) es).run P w = .ok (some (j, e.val)) w ∧ es[j]? = some e ∧ e.key = enc a
  stays : ∀ (w : World) {a : κ}, ok a → (Instr.keyThatStays (enc a) (enc a)).run P w = .ok (enc a) w

/- words of lifted functions -/
def mput {κ α : Type} [DecidableEq κ] (m : κ → Option α) (a : κ) (x : α) : κ → Option α := fun b => if b = a then some x else m b
def mdel {κ α : Type} [DecidableEq κ] (m : κ → Option α) (a : κ) : κ → Option α := fun b => if b = a then none else m b
def mnil {κ α : Type} : κ → Option α := fun _ => none

/-- entries of a map: keys apart, values with their blocks; of what the hole names nothing is known -/
structure MapB {P : Program} {k : TypeId} {κ α : Type} (kt : Kt P k κ) (t : To α) (hole : κ → Value → Prop) (F : Frz) (h : Array Obj) (es : List MapEntry) (bss : List (List Nat)) (m : κ → Option α) : Prop where
  len : bss.length = es.length
  ent : ∀ (i : Nat) (e : MapEntry) (b : List Nat), es[i]? = some e → bss[i]? = some b → ∃ a, kt.ok a ∧ e.key = kt.enc a ∧ (hole a e.val ∧ b = [] ∧ (m a).isSome = true ∨ (∀ u, ¬ hole a u) ∧ ∃ x, m a = some x ∧ t.rel F h b [e.val] x)
  all : ∀ (a : κ) (x : α), (∀ u, ¬ hole a u) → m a = some x → kt.ok a ∧ ∃ e ∈ es, e.key = kt.enc a
  gap : ∀ (a : κ) (u : Value), hole a u → (∀ e ∈ es, e.key ≠ kt.enc a) → m a = none ∧ u = .slice none 0 0
  apart : es.Pairwise fun e e' => e.key ≠ e'.key
def MapAt {P : Program} {k : TypeId} {κ α : Type} (kt : Kt P k κ) (t : To α) (hole : κ → Value → Prop) (F : Frz) (h : Array Obj) (g : Nat) (bs : List Nat) (m : κ → Option α) : Prop :=
  ∃ es clock bss, h[g]? = some (.map es clock) ∧ bs = g :: bss.flatten ∧ bs.Nodup ∧ MapB kt t hole F h es.toList bss m ∧ ∀ b ∈ bs, b < h.size
theorem MapAt.mono {P : Program} {k : TypeId} {κ α : Type} {kt : Kt P k κ} {t : To α} {hole : κ → Value → Prop} {F G : Frz} {h : Array Obj} {g : Nat} {bs : List Nat} {m : κ → Option α} (l : F.le G) (q : MapAt kt t hole F h g bs m) : MapAt kt t hole G h g bs m := by
  obtain ⟨es, clock, bss, h1, h2, h3, h4, h5⟩ := q
  refine ⟨es, clock, bss, h1, h2, h3, ⟨h4.len, fun i e b he hb => ?_, h4.all, h4.gap, h4.apart⟩, h5⟩
  obtain ⟨a, e1, e2, e3⟩ := h4.ent i e b he hb
  refine ⟨a, e1, e2, ?_⟩
  rcases e3 with e3 | ⟨n, x, e4, e5⟩
  · exact .inl e3
  · exact .inr ⟨n, x, e4, t.mono l e5⟩
theorem MapAt.frame {P : Program} {k : TypeId} {κ α : Type} {kt : Kt P k κ} {t : To α} {hole : κ → Value → Prop} {F : Frz} {h h' : Array Obj} {g : Nat} {bs : List Nat} {m : κ → Option α} (q : MapAt kt t hole F h g bs m) (hk : ∀ b ∈ bs, h'[b]? = h[b]?) : MapAt kt t hole F h' g bs m := by
  obtain ⟨es, clock, bss, h1, h2, h3, h4, h5⟩ := q
  subst h2
  refine ⟨es, clock, bss, (hk g (by simp)).trans h1, rfl, h3, ⟨h4.len, fun i e b he hb => ?_, h4.all, h4.gap, h4.apart⟩, fun b hb => ?_⟩
  · obtain ⟨a, e1, e2, e3⟩ := h4.ent i e b he hb
    refine ⟨a, e1, e2, ?_⟩
    rcases e3 with e3 | ⟨n, x, e4, e5⟩
    · exact .inl e3
    · exact .inr ⟨n, x, e4, t.frame e5 fun b' hb' => hk b' (List.mem_cons_of_mem _ (List.mem_flatten.2 ⟨b, List.mem_of_getElem? hb, hb'⟩))⟩
  · have h6 := h5 b hb
    have h7 := hk b hb
    rw [Array.getElem?_eq_getElem h6] at h7
    exact (Array.getElem?_eq_some_iff.1 h7).1
/-- a map, as a value -/
def tMap {P : Program} {k : TypeId} {κ α : Type} (kt : Kt P k κ) (t : To α) (hole : κ → Value → Prop) : To (κ → Option α) where
  size := 1
  rel F h bs cs m := ∃ g, cs = [.map (some g)] ∧ MapAt kt t hole F h g bs m
  len := by rintro F h bs cs x ⟨g, rfl, _⟩; rfl
  one := by rintro F h bs cs x ⟨g, rfl, _⟩ u hu; simp at hu; subst hu; rfl
  lt := by rintro F h bs cs x ⟨g, rfl, es, clock, bss, _, _, _, _, h5⟩ b hb; exact h5 b hb
  nodup := by rintro F h bs cs x ⟨g, rfl, es, clock, bss, _, _, h3, _⟩; exact h3
  mono := by rintro F G h bs cs x l ⟨g, rfl, q⟩; exact ⟨g, rfl, q.mono l⟩
  frame := by rintro F h h' bs cs x ⟨g, rfl, q⟩ hk; exact ⟨g, rfl, q.frame hk⟩
def noHole {κ : Type} : κ → Value → Prop := fun _ _ => False
def holeAt {κ : Type} (a : κ) (u : Value) : κ → Value → Prop := fun b v => b = a ∧ v = u

section
variable {P : Program} {k e tm : TypeId} {κ α : Type} {kt : Kt P k κ} {t : To α} {F : Frz} {w : World} {g : Nat} {bs : List Nat} {m : κ → Option α} {a : κ}
theorem MapB.keys {hole : κ → Value → Prop} {h : Array Obj} {es : List MapEntry} {bss : List (List Nat)} (q : MapB kt t hole F h es bss m) : ∀ e ∈ es, ∃ b, kt.ok b ∧ e.key = kt.enc b := by
  intro e he
  obtain ⟨i, hi⟩ := List.mem_iff_getElem?.1 he
  have hl := (List.getElem?_eq_some_iff.1 hi).1
  obtain ⟨b, h1, h2, _⟩ := q.ent i e _ hi (List.getElem?_eq_getElem (by rw [q.len]; exact hl))
  exact ⟨b, h1, h2⟩
/-- of two entries at two places the keys are two -/
theorem MapB.two {hole : κ → Value → Prop} {h : Array Obj} {es : List MapEntry} {bss : List (List Nat)} (q : MapB kt t hole F h es bss m) {i j : Nat} {e1 e2 : MapEntry} (h1 : es[i]? = some e1) (h2 : es[j]? = some e2) (hne : i ≠ j) : e1.key ≠ e2.key := by
  have hil := (List.getElem?_eq_some_iff.1 h1).1
  have hjl := (List.getElem?_eq_some_iff.1 h2).1
  have hp := List.pairwise_iff_getElem.1 q.apart
  rw [← (List.getElem?_eq_some_iff.1 h1).2, ← (List.getElem?_eq_some_iff.1 h2).2]
  rcases Nat.lt_or_gt_of_ne hne with hlt | hlt
  · exact hp i j hil hjl hlt
  · exact (hp j i hjl hil hlt).symm
/-- a look -/
theorem MapAt.look {z : Value} (q : MapAt kt t noHole F w.heap g bs m) (ht : P.underlying tm = some (.map k e)) (hz : ∀ w, (zeroValue e).run P w = .ok z w) (hok : kt.ok a) (c : Bool) :
    (m a = none ∧ (Instr.lookup tm (.map (some g)) (kt.enc a) c).run P w = .ok (if c then .tuple #[z, .bool false] else z) w) ∨
    ∃ x v b, m a = some x ∧ t.rel F w.heap b [v] x ∧ (∀ n ∈ b, n ∈ bs) ∧ (Instr.lookup tm (.map (some g)) (kt.enc a) c).run P w = .ok (if c then .tuple #[v, .bool true] else v) w := by
  obtain ⟨es, clock, bss, h1, h2, h3, h4, h5⟩ := q
  rcases kt.find w hok es.toList h4.keys with ⟨f1, f2⟩ | ⟨j, e0, f1, f2, f3⟩
  · refine .inl ⟨?_, by simp [Instr.lookup, run_underlying ht, MapKept.run_getObj_map h1, kt.check w _ hok, f1, hz, Result.andThen]⟩
    cases hm : m a with
    | none => rfl
    | some x =>
      obtain ⟨_, e', he', hk'⟩ := h4.all a x (fun _ h => h) hm
      exact absurd hk' (f2 e' he')
  · have hl := (List.getElem?_eq_some_iff.1 f2).1
    have hb := List.getElem?_eq_getElem (l := bss) (i := j) (by rw [h4.len]; exact hl)
    obtain ⟨a', g1, g2, g3⟩ := h4.ent j e0 _ f2 hb
    have : a' = a := kt.inj g1 hok (by rw [← g2, f3])
    subst this
    rcases g3 with ⟨g3, _⟩ | ⟨_, x, g4, g5⟩
    · exact g3.elim
    · exact .inr ⟨x, e0.val, _, g4, g5, fun n hn => by rw [h2]; exact List.mem_cons_of_mem _ (List.mem_flatten.2 ⟨_, List.mem_of_getElem? hb, hn⟩), by simp [Instr.lookup, run_underlying ht, MapKept.run_getObj_map h1, kt.check w _ hok, f1, Result.andThen]⟩
theorem gbl_set {w : World} {g : Nat} {bs : List Nat} (o : Obj) (hg : g ∈ bs) : GbL w { w with heap := w.heap.setIfInBounds g o } bs :=
  ⟨rfl, rfl, rfl, by simp, fun k' _ hk => by simp only [Array.getElem?_setIfInBounds]; rw [if_neg]; rintro rfl; exact hk hg, Nat.le_refl _⟩
theorem take_drop_at {β : Type} {l : List β} {j : Nat} {x : β} (h : l[j]? = some x) : l = l.take j ++ x :: l.drop (j + 1) := by
  have hl := (List.getElem?_eq_some_iff.1 h).1
  rw [← (List.getElem?_eq_some_iff.1 h).2, ← List.drop_eq_getElem_cons hl, List.take_append_drop]
theorem set_at {β : Type} {l : List β} {j : Nat} {x y : β} (h : l[j]? = some x) : l.set j y = l.take j ++ y :: l.drop (j + 1) := by
  rw [List.set_eq_take_append_cons_drop, if_pos (List.getElem?_eq_some_iff.1 h).1]
/-- a value is lent: what is found there, and the map without it -/
theorem MapAt.dig {z : Value} (q : MapAt kt t noHole F w.heap g bs m) (ht : P.underlying tm = some (.map k e)) (hz : ∀ w, (zeroValue e).run P w = .ok z w) (hok : kt.ok a) : ∃ u bs', MapAt kt t (holeAt a u) F w.heap g bs' m ∧ (∀ n ∈ bs', n ∈ bs) ∧
    ((m a = none ∧ u = .slice none 0 0 ∧ (Instr.lookup tm (.map (some g)) (kt.enc a) false).run P w = .ok z w) ∨ ∃ x b, m a = some x ∧ t.rel F w.heap b [u] x ∧ (∀ n ∈ b, n ∈ bs ∧ n ∉ bs') ∧ (Instr.lookup tm (.map (some g)) (kt.enc a) false).run P w = .ok u w) := by
  have hlook := q.look ht hz hok false
  obtain ⟨es, clock, bss, h1, h2, h3, h4, h5⟩ := q
  subst h2
  rcases kt.find w hok es.toList h4.keys with ⟨f1, f2⟩ | ⟨j, e0, f1, f2, f3⟩
  · have hm : m a = none := by
      cases hm : m a with
      | none => rfl
      | some x =>
        obtain ⟨_, e', he', hk'⟩ := h4.all a x (fun _ h => h) hm
        exact absurd hk' (f2 e' he')
    refine ⟨.slice none 0 0, g :: bss.flatten, ⟨es, clock, bss, h1, rfl, h3, ⟨h4.len, fun i e b he hb => ?_, fun a1 x hn hm => h4.all a1 x (fun _ h => h) hm, fun a1 u hh hn => ?_, h4.apart⟩, h5⟩, fun n hn => hn, .inl ⟨hm, rfl, ?_⟩⟩
    · obtain ⟨a1, k1, k2, k3⟩ := h4.ent i e b he hb
      have hne : a1 ≠ a := fun e1 => f2 e (List.mem_of_getElem? he) (e1 ▸ k2)
      rcases k3 with ⟨k3, _⟩ | ⟨_, k3⟩
      · exact k3.elim
      · exact ⟨a1, k1, k2, .inr ⟨fun u hu => hne hu.1, k3⟩⟩
    · obtain ⟨rfl, rfl⟩ := hh; exact ⟨hm, rfl⟩
    · simp [Instr.lookup, run_underlying ht, MapKept.run_getObj_map h1, kt.check w _ hok, f1, hz, Result.andThen]
  · have hl := (List.getElem?_eq_some_iff.1 f2).1
    have hjl : j < bss.length := by rw [h4.len]; exact hl
    have hb := List.getElem?_eq_getElem hjl
    obtain ⟨a', g1, g2, g3⟩ := h4.ent j e0 _ f2 hb
    have : a' = a := kt.inj g1 hok (by rw [← g2, f3])
    subst this
    obtain ⟨x, g4, g5⟩ : ∃ x, m a' = some x ∧ t.rel F w.heap bss[j] [e0.val] x := by
      rcases g3 with ⟨g3, _⟩ | ⟨_, x, g4, g5⟩
      · exact g3.elim
      · exact ⟨x, g4, g5⟩
    have hs := take_drop_at hb
    have hnd : bss.flatten.Nodup := (List.nodup_cons.1 h3).2
    have hfl : ∀ n, n ∈ (bss.set j []).flatten → n ∈ bss.flatten ∧ n ∉ bss[j] := fun n hn => by
      rw [set_at hb] at hn
      rw [hs] at hnd
      simp only [List.flatten_append, List.flatten_cons, List.nil_append, List.mem_append] at hn hnd
      obtain ⟨_, n2, n3⟩ := List.nodup_append.1 hnd
      obtain ⟨_, _, n6⟩ := List.nodup_append.1 n2
      have hm : ∀ q, q ∈ (bss.take j).flatten ∨ q ∈ (bss.drop (j + 1)).flatten → q ∈ bss.flatten := fun q hq => by
        rw [hs]; simp only [List.flatten_append, List.flatten_cons, List.mem_append]; rcases hq with h | h
        · exact .inl h
        · exact .inr (.inr h)
      rcases hn with hn | hn
      · exact ⟨hm n (.inl hn), fun hb => n3 n hn n (List.mem_append.2 (.inl hb)) rfl⟩
      · exact ⟨hm n (.inr hn), fun hb => n6 n hb n hn rfl⟩
    refine ⟨e0.val, g :: (bss.set j []).flatten, ⟨es, clock, bss.set j [], h1, rfl, ?_, ⟨by simp [h4.len], fun i e b he hb' => ?_, fun a1 x hn hm => h4.all a1 x (fun _ h => h) hm, fun a1 u hh hn => ?_, h4.apart⟩, fun b hb' => ?_⟩, fun n hn => ?_, .inr ⟨x, bss[j], g4, g5, fun n hn => ⟨?_, fun hn' => ?_⟩, by simp [Instr.lookup, run_underlying ht, MapKept.run_getObj_map h1, kt.check w _ hok, f1, Result.andThen]⟩⟩
    · refine List.nodup_cons.2 ⟨fun hg => (List.nodup_cons.1 h3).1 (hfl g hg).1, ?_⟩
      have hsub : (bss.set j []).flatten.Sublist bss.flatten := by
        rw [set_at hb]
        conv => rhs; rw [hs]
        simp only [List.flatten_append, List.flatten_cons, List.nil_append]
        exact List.Sublist.append_left (List.sublist_append_right _ _) _
      exact hsub.nodup hnd
    · rw [List.getElem?_set] at hb'
      split at hb'
      · rename_i hji
        subst hji
        try rw [if_pos hjl] at hb'
        obtain rfl := Option.some.inj hb'
        rw [f2] at he
        obtain rfl := Option.some.inj he
        exact ⟨a', g1, g2, .inl ⟨⟨rfl, rfl⟩, rfl, by simp [g4]⟩⟩
      · rename_i hji
        obtain ⟨a1, k1, k2, k3⟩ := h4.ent i e b he hb'
        have hne : a1 ≠ a' := fun e1 => h4.two f2 he hji (by rw [g2, k2, e1])
        rcases k3 with ⟨k3, _⟩ | ⟨_, k3⟩
        · exact k3.elim
        · exact ⟨a1, k1, k2, .inr ⟨fun u hu => hne hu.1, k3⟩⟩
    · obtain ⟨rfl, rfl⟩ := hh
      exact absurd g2 (hn e0 (List.mem_of_getElem? f2))
    · rcases List.mem_cons.1 hb' with rfl | hb'
      · exact h5 _ (by simp)
      · exact h5 _ (List.mem_cons_of_mem _ (hfl b hb').1)
    · rcases List.mem_cons.1 hn with rfl | hn
      · simp
      · exact List.mem_cons_of_mem _ (hfl n hn).1
    · exact List.mem_cons_of_mem _ (List.mem_flatten.2 ⟨_, List.mem_of_getElem? hb, hn⟩)
    · rcases List.mem_cons.1 hn' with rfl | hn'
      · exact (List.nodup_cons.1 h3).1 (List.mem_flatten.2 ⟨_, List.mem_of_getElem? hb, hn⟩)
      · exact (hfl n hn').2 hn
theorem hole_blocks {β : Type} {bss : List (List β)} {j : Nat} {b : List β} (h : bss[j]? = some []) : ∀ n, n ∈ (bss.set j b).flatten → n ∈ bss.flatten ∨ n ∈ b := fun n hn => by
  rw [set_at h] at hn
  rw [take_drop_at h]
  simp only [List.flatten_append, List.flatten_cons, List.nil_append, List.mem_append] at hn ⊢
  rcases hn with hn | hn | hn
  · exact .inl (.inl hn)
  · exact .inr hn
  · exact .inl (.inr hn)
theorem hole_nodup {β : Type} {bss : List (List β)} {j : Nat} {b : List β} (h : bss[j]? = some []) (hn : bss.flatten.Nodup) (hb : b.Nodup) (hd : ∀ n ∈ b, n ∉ bss.flatten) : (bss.set j b).flatten.Nodup := by
  have hs := take_drop_at h
  have hm : ∀ n, n ∈ (bss.take j).flatten ∨ n ∈ (bss.drop (j + 1)).flatten → n ∈ bss.flatten := fun n hn => by
    rw [hs]; simpa only [List.flatten_append, List.flatten_cons, List.nil_append, List.mem_append] using hn
  rw [set_at h]
  rw [hs] at hn
  simp only [List.flatten_append, List.flatten_cons, List.nil_append] at hn ⊢
  obtain ⟨n1, n2, n3⟩ := List.nodup_append.1 hn
  refine List.nodup_append.2 ⟨n1, List.nodup_append.2 ⟨hb, n2, fun x hx y hy e => ?_⟩, fun x hx y hy e => ?_⟩
  · subst e; exact hd x hx (hm x (.inr hy))
  · subst e
    rcases List.mem_append.1 hy with hy | hy
    · exact hd x hy (hm x (.inl hx))
    · exact n3 x hx x hy rfl
/-- what was lent comes back as it was -/
theorem MapAt.undig {u : Value} {x : α} {b : List Nat} {h : Array Obj} (q : MapAt kt t (holeAt a u) F h g bs m) (hok : kt.ok a) (hr : m a = some x → t.rel F h b [u] x) (hb : ∀ n ∈ b, n ∉ bs) (hm0 : m a = none ∨ m a = some x) : ∃ bs', MapAt kt t noHole F h g bs' m ∧ ∀ n ∈ bs', n ∈ bs ∨ n ∈ b := by
  obtain ⟨es, clock, bss, h1, h2, h3, h4, h5⟩ := q
  subst h2
  have plain : ∀ (i : Nat) (e : MapEntry) (b' : List Nat), es.toList[i]? = some e → bss[i]? = some b' → (∃ a1, kt.ok a1 ∧ e.key = kt.enc a1 ∧ (a1 = a ∧ e.val = u ∧ b' = [] ∧ (m a1).isSome = true ∨ a1 ≠ a ∧ ∃ x, m a1 = some x ∧ t.rel F h b' [e.val] x)) := fun i e b' he hb' => by
    obtain ⟨a1, k1, k2, k3⟩ := h4.ent i e b' he hb'
    rcases k3 with ⟨⟨k3, k4⟩, k5, k6⟩ | ⟨k3, k4⟩
    · exact ⟨a1, k1, k2, .inl ⟨k3, k4, k5, k6⟩⟩
    · exact ⟨a1, k1, k2, .inr ⟨fun e1 => k3 u ⟨e1, rfl⟩, k4⟩⟩
  by_cases hex : ∃ (j : Nat) (e0 : MapEntry), es.toList[j]? = some e0 ∧ ∃ b', bss[j]? = some b' ∧ e0.key = kt.enc a ∧ kt.ok a ∧ e0.val = u ∧ b' = [] ∧ (m a).isSome = true
  · obtain ⟨j, e0, f2, b', fb, f3, f4, f5, rfl, f6⟩ := hex
    have hmx : m a = some x := by
      rcases hm0 with h | h
      · rw [h] at f6; cases f6
      · exact h
    have hrx := hr hmx
    have hjb := (List.getElem?_eq_some_iff.1 fb).1
    refine ⟨g :: (bss.set j b).flatten, ⟨es, clock, bss.set j b, h1, rfl, ?_, ⟨by simp [h4.len], fun i e b' he hb' => ?_, fun a1 y _ hm => ?_, fun a1 u' hh => hh.elim, h4.apart⟩, fun n hn => ?_⟩, fun n hn => ?_⟩
    · refine List.nodup_cons.2 ⟨fun hg => ?_, hole_nodup fb (List.nodup_cons.1 h3).2 (t.nodup hrx) fun n hn hn' => hb n hn (List.mem_cons_of_mem _ hn')⟩
      rcases hole_blocks fb g hg with h | h
      · exact (List.nodup_cons.1 h3).1 h
      · exact hb g h (by simp)
    · rw [List.getElem?_set] at hb'
      split at hb'
      · rename_i hji
        subst hji
        try rw [if_pos hjb] at hb'
        obtain rfl := Option.some.inj hb'
        rw [f2] at he
        obtain rfl := Option.some.inj he
        exact ⟨a, f4, f3, .inr ⟨fun _ h => h, x, hmx, by rw [f5]; exact hrx⟩⟩
      · rename_i hji
        obtain ⟨a1, k1, k2, k3⟩ := plain i e b' he hb'
        have hne : a1 ≠ a := fun e1 => h4.two f2 he hji (by rw [f3, k2, e1])
        rcases k3 with ⟨k3, _⟩ | ⟨_, k4⟩
        · exact absurd k3 hne
        · exact ⟨a1, k1, k2, .inr ⟨fun _ h => h, k4⟩⟩
    · by_cases e1 : a1 = a
      · subst e1; exact ⟨f4, e0, List.mem_of_getElem? f2, f3⟩
      · exact h4.all a1 y (fun u' hu => e1 hu.1) hm
    · rcases List.mem_cons.1 hn with rfl | hn
      · exact h5 _ (by simp)
      · rcases hole_blocks fb n hn with h | h
        · exact h5 n (List.mem_cons_of_mem _ h)
        · exact t.lt hrx n h
    · rcases List.mem_cons.1 hn with rfl | hn
      · exact .inl (by simp)
      · rcases hole_blocks fb n hn with h | h
        · exact .inl (List.mem_cons_of_mem _ h)
        · exact .inr h
  · have hno : ∀ (i : Nat) (e : MapEntry) (b' : List Nat), es.toList[i]? = some e → bss[i]? = some b' → ∃ a1, kt.ok a1 ∧ e.key = kt.enc a1 ∧ a1 ≠ a ∧ ∃ x, m a1 = some x ∧ t.rel F h b' [e.val] x := fun i e b' he hb' => by
      obtain ⟨a1, k1, k2, k3⟩ := plain i e b' he hb'
      rcases k3 with ⟨k3, k4, k5, k6⟩ | ⟨k3, k4⟩
      · subst k3
        exact absurd ⟨i, e, he, b', hb', k2, k1, k4, k5, k6⟩ hex
      · exact ⟨a1, k1, k2, k3, k4⟩
    have hma : m a = none := by
      refine (h4.gap a u ⟨rfl, rfl⟩ fun e he hk => ?_).1
      obtain ⟨i, hi⟩ := List.mem_iff_getElem?.1 he
      have hl := (List.getElem?_eq_some_iff.1 hi).1
      have hbi := List.getElem?_eq_getElem (l := bss) (i := i) (by rw [h4.len]; exact hl)
      obtain ⟨a1, k1, k2, k3⟩ := plain i e _ hi hbi
      rcases k3 with ⟨k3, k4, k5, k6⟩ | ⟨k3, x1, k4, _⟩
      · subst k3
        exact hex ⟨i, e, hi, _, hbi, k2, k1, k4, k5, k6⟩
      · exact k3 (kt.inj k1 hok (by rw [← k2, hk]))
    refine ⟨g :: bss.flatten, ⟨es, clock, bss, h1, rfl, h3, ⟨h4.len, fun i e b' he hb' => ?_, fun a1 y _ hm => ?_, fun a1 u' hh => hh.elim, h4.apart⟩, h5⟩, fun n hn => .inl hn⟩
    · obtain ⟨a1, k1, k2, k3, k4⟩ := hno i e b' he hb'
      exact ⟨a1, k1, k2, .inr ⟨fun _ h => h, k4⟩⟩
    · have hne : a1 ≠ a := fun e1 => by rw [e1, hma] at hm; cases hm
      exact h4.all a1 y (fun u' hu => hne hu.1) hm
/-- the hole is filled -/
theorem MapAt.fill [DecidableEq κ] {u v : Value} {x : α} {b : List Nat} (q : MapAt kt t (holeAt a u) F w.heap g bs m) (ht : P.underlying tm = some (.map k e)) (hok : kt.ok a) (hv : t.rel F w.heap b [v] x) (hb : ∀ n ∈ b, n ∉ bs) :
    ∃ o bs', (Instr.mapUpdate tm (.map (some g)) (kt.enc a) v).run P w = .ok () { w with heap := w.heap.setIfInBounds g o } ∧ MapAt kt t noHole F (w.heap.setIfInBounds g o) g bs' (mput m a x) ∧ (∀ n ∈ bs', n ∈ bs ∨ n ∈ b) := by
  obtain ⟨es, clock, bss, h1, h2, h3, h4, h5⟩ := q
  subst h2
  have hgs : g < w.heap.size := h5 g (by simp)
  have hgb : g ∉ b := fun hg => hb g hg (by simp)
  have hbn := t.nodup hv
  have hbl := t.lt hv
  have hoth : ∀ (o : Obj) (n : Nat), n ≠ g → (w.heap.setIfInBounds g o)[n]? = w.heap[n]? := fun o n hn => by rw [Array.getElem?_setIfInBounds, if_neg (fun e => hn e.symm)]
  have hself : ∀ (o : Obj), (w.heap.setIfInBounds g o)[g]? = some o := fun o => by rw [Array.getElem?_setIfInBounds, if_pos rfl, if_pos hgs]
  have hfr : ∀ (o : Obj) (b' : List Nat) (u : Value) (y : α), (∀ n ∈ b', n ∈ bss.flatten ∨ n ∈ b) → t.rel F w.heap b' [u] y → t.rel F (w.heap.setIfInBounds g o) b' [u] y := fun o b' u y hb' hr => t.frame hr fun n hn => hoth o n (by
    rcases hb' n hn with h | h
    · rintro rfl; exact (List.nodup_cons.1 h3).1 h
    · rintro rfl; exact hgb h)
  have plain : ∀ (i : Nat) (e : MapEntry) (b' : List Nat), es.toList[i]? = some e → bss[i]? = some b' → (∃ a1, kt.ok a1 ∧ e.key = kt.enc a1 ∧ (a1 = a ∧ b' = [] ∨ a1 ≠ a ∧ ∃ x, m a1 = some x ∧ t.rel F w.heap b' [e.val] x)) := fun i e b' he hb' => by
    obtain ⟨a1, k1, k2, k3⟩ := h4.ent i e b' he hb'
    rcases k3 with ⟨⟨k3, _⟩, k5, _⟩ | ⟨k3, k4⟩
    · exact ⟨a1, k1, k2, .inl ⟨k3, k5⟩⟩
    · exact ⟨a1, k1, k2, .inr ⟨fun e1 => k3 u ⟨e1, rfl⟩, k4⟩⟩
  have hall : ∀ a1 y, a1 ≠ a → m a1 = some y → kt.ok a1 ∧ ∃ e ∈ es.toList, e.key = kt.enc a1 := fun a1 y hne hm => h4.all a1 y (fun u' hu => hne hu.1) hm
  rcases kt.find w hok es.toList h4.keys with ⟨f1, f2⟩ | ⟨j, e0, f1, f2, f3⟩
  · refine ⟨.map (es.push ⟨kt.enc a, v, clock⟩) (clock + 1), g :: (bss ++ [b]).flatten, by simp [Instr.mapUpdate, run_underlying ht, MapKept.run_getObj_map h1, kt.check w false hok, f1, MapKept.run_setObj_map _ h1, Result.andThen],
      ⟨_, _, bss ++ [b], hself _, rfl, ?_, ⟨by simp [h4.len], fun i e' b' he' hb' => ?_, fun a1 y _ hm => ?_, fun a1 u' hh => hh.elim, ?_⟩, fun n hn => ?_⟩, fun n hn => ?_⟩
    · simp only [List.flatten_append, List.flatten_cons, List.flatten_nil, List.append_nil]
      refine List.nodup_cons.2 ⟨fun hg => ?_, List.nodup_append.2 ⟨(List.nodup_cons.1 h3).2, hbn, fun x hx y hy e => ?_⟩⟩
      · rcases List.mem_append.1 hg with hg | hg
        · exact (List.nodup_cons.1 h3).1 hg
        · exact hgb hg
      · subst e; exact hb x hy (List.mem_cons_of_mem _ hx)
    · simp only [Array.toList_push] at he'
      by_cases hi : i < es.toList.length
      · rw [List.getElem?_append_left hi] at he'
        rw [List.getElem?_append_left (by rw [h4.len]; exact hi)] at hb'
        obtain ⟨a1, k1, k2, k3⟩ := plain i e' b' he' hb'
        have hne : a1 ≠ a := fun e1 => f2 e' (List.mem_of_getElem? he') (e1 ▸ k2)
        rcases k3 with ⟨k3, _⟩ | ⟨_, y, k4, k5⟩
        · exact absurd k3 hne
        · exact ⟨a1, k1, k2, .inr ⟨fun _ h => h, y, by simp [mput, hne, k4], hfr _ _ _ _ (fun n hn => .inl (List.mem_flatten.2 ⟨b', List.mem_of_getElem? hb', hn⟩)) k5⟩⟩
      · rw [List.getElem?_append_right (by omega)] at he'
        rw [List.getElem?_append_right (by rw [h4.len]; omega), h4.len] at hb'
        cases hq : i - es.toList.length with
        | zero =>
          rw [hq] at he' hb'
          simp at he' hb'
          subst he'; subst hb'
          exact ⟨a, hok, rfl, .inr ⟨fun _ h => h, x, by simp [mput], hfr _ _ _ _ (fun n hn => .inr hn) hv⟩⟩
        | succ q => rw [hq] at he'; simp at he'
    · simp only [mput] at hm
      by_cases e1 : a1 = a
      · subst e1; exact ⟨hok, ⟨kt.enc a1, v, clock⟩, by simp, rfl⟩
      · rw [if_neg e1] at hm
        obtain ⟨k1, e', k2, k3⟩ := hall a1 y e1 hm
        exact ⟨k1, e', by simp; exact .inl (by simpa using k2), k3⟩
    · simp only [Array.toList_push]
      refine List.pairwise_append.2 ⟨h4.apart, by simp, fun x hx y hy => ?_⟩
      simp at hy; subst hy
      exact f2 x hx
    · rw [Array.size_setIfInBounds]
      simp only [List.flatten_append, List.flatten_cons, List.flatten_nil, List.append_nil, List.mem_cons, List.mem_append] at hn
      rcases hn with hn | hn | hn
      · exact h5 n (by simp [hn])
      · exact h5 n (List.mem_cons_of_mem _ hn)
      · exact hbl n hn
    · simp only [List.flatten_append, List.flatten_cons, List.flatten_nil, List.append_nil, List.mem_cons, List.mem_append] at hn
      rcases hn with hn | hn | hn
      · exact .inl (by simp [hn])
      · exact .inl (List.mem_cons_of_mem _ hn)
      · exact .inr hn
  · have hjl := (List.getElem?_eq_some_iff.1 f2).1
    have hjb : j < bss.length := by rw [h4.len]; exact hjl
    have hb1 := List.getElem?_eq_getElem hjb
    obtain ⟨a', g1, g2, g3⟩ := plain j e0 _ f2 hb1
    have : a' = a := kt.inj g1 hok (by rw [← g2, f3])
    subst this
    have hb0 : bss[j] = [] := by
      rcases g3 with ⟨_, g3⟩ | ⟨g3, _⟩
      · exact g3
      · exact absurd rfl g3
    rw [hb0] at hb1
    have hfl := hole_blocks (b := b) hb1
    have hjs : j < es.size := by simpa using hjl
    have hkey0 : es[j].key = kt.enc a' := by
      have := (List.getElem?_eq_some_iff.1 f2).2
      rw [Array.getElem_toList] at this
      rw [this, f3]
    have hst := kt.stays w hok
    have hmod : ∀ i, (es.modify j fun e => { e with key := kt.enc a', val := v }).toList[i]? = if j = i then (es.toList[i]?).map (fun e => { e with key := kt.enc a', val := v }) else es.toList[i]? := fun i => by
      rw [Array.getElem?_toList, Array.getElem?_modify]
      simp only [Array.getElem?_toList]
    have hlen' : (es.modify j fun e => { e with key := kt.enc a', val := v }).toList.length = es.toList.length := by simp
    refine ⟨.map (es.modify j fun e => { e with key := kt.enc a', val := v }) clock, g :: (bss.set j b).flatten, ?_, ⟨_, _, bss.set j b, hself _, rfl, ?_, ⟨by rw [hlen', List.length_set, h4.len], fun i e' b' he' hb' => ?_, fun a1 y _ hm => ?_, fun a1 u' hh => hh.elim, ?_⟩, fun n hn => ?_⟩, fun n hn => ?_⟩
    · simp [Instr.mapUpdate, run_underlying ht, MapKept.run_getObj_map h1, kt.check w false hok, f1, MapKept.run_setObj_map _ h1, Result.andThen, hjs, hkey0, hst]
    · refine List.nodup_cons.2 ⟨fun hg => ?_, hole_nodup hb1 (List.nodup_cons.1 h3).2 hbn fun n hn hn' => hb n hn (List.mem_cons_of_mem _ hn')⟩
      rcases hfl g hg with h | h
      · exact (List.nodup_cons.1 h3).1 h
      · exact hgb h
    · rw [hmod] at he'
      rw [List.getElem?_set] at hb'
      split at hb'
      · rename_i hji
        subst hji
        try rw [if_pos hjb] at hb'
        obtain rfl := Option.some.inj hb'
        rw [if_pos rfl, f2] at he'
        simp at he'
        subst he'
        exact ⟨a', hok, rfl, .inr ⟨fun _ h => h, x, by simp [mput], hfr _ _ _ _ (fun n hn => .inr hn) hv⟩⟩
      · rename_i hji
        rw [if_neg hji] at he'
        obtain ⟨a1, k1, k2, k3⟩ := plain i e' b' he' hb'
        have hne : a1 ≠ a' := fun e1 => h4.two f2 he' hji (by rw [g2, k2, e1])
        rcases k3 with ⟨k3, _⟩ | ⟨_, y, k4, k5⟩
        · exact absurd k3 hne
        · exact ⟨a1, k1, k2, .inr ⟨fun _ h => h, y, by simp [mput, hne, k4], hfr _ _ _ _ (fun n hn => .inl (List.mem_flatten.2 ⟨b', List.mem_of_getElem? hb', hn⟩)) k5⟩⟩
    · have key' : ∀ a2, (∃ e ∈ es.toList, e.key = kt.enc a2) → ∃ e ∈ (es.modify j fun e => { e with key := kt.enc a', val := v }).toList, e.key = kt.enc a2 := by
        rintro a2 ⟨e', he', hk'⟩
        obtain ⟨i, hi⟩ := List.mem_iff_getElem?.1 he'
        by_cases hji : j = i
        · subst hji
          rw [f2] at hi
          obtain rfl := Option.some.inj hi
          exact ⟨{ e0 with key := kt.enc a', val := v }, List.mem_of_getElem? (i := j) (by rw [hmod, if_pos rfl, f2]; rfl), by rw [← hk', f3]⟩
        · exact ⟨e', List.mem_of_getElem? (i := i) (by rw [hmod, if_neg hji, hi]), hk'⟩
      simp only [mput] at hm
      by_cases e1 : a1 = a'
      · subst e1; exact ⟨hok, key' _ ⟨e0, List.mem_of_getElem? f2, f3⟩⟩
      · rw [if_neg e1] at hm
        obtain ⟨k1, k2⟩ := hall a1 y e1 hm
        exact ⟨k1, key' _ k2⟩
    · refine List.pairwise_iff_getElem.2 fun i i' hi hi' hlt => ?_
      have hk : ∀ (q : Nat) (e1 : MapEntry), (es.modify j fun e => { e with key := kt.enc a', val := v }).toList[q]? = some e1 → ∃ e2, es.toList[q]? = some e2 ∧ e2.key = e1.key := fun q e1 hq => by
        rw [hmod] at hq
        split at hq
        · rename_i e3
          subst e3
          rw [f2] at hq
          simp at hq
          exact ⟨e0, f2, by rw [f3, ← hq]⟩
        · exact ⟨e1, hq, rfl⟩
      obtain ⟨e2, q1, q2⟩ := hk i _ (List.getElem?_eq_getElem hi)
      obtain ⟨e3, q3, q4⟩ := hk i' _ (List.getElem?_eq_getElem hi')
      rw [← q2, ← q4]
      exact h4.two q1 q3 (by omega)
    · rw [Array.size_setIfInBounds]
      rcases List.mem_cons.1 hn with rfl | hn
      · exact hgs
      · rcases hfl n hn with h | h
        · exact h5 n (List.mem_cons_of_mem _ h)
        · exact hbl n h
    · rcases List.mem_cons.1 hn with rfl | hn
      · exact .inl (by simp)
      · rcases hfl n hn with h | h
        · exact .inl (List.mem_cons_of_mem _ h)
        · exact .inr h
/-- a key is taken out -/
theorem MapAt.del [DecidableEq κ] {ty tk : TypeId} {u : Value} (q : MapAt kt t (holeAt a u) F w.heap g bs m) (ht : P.underlying tm = some (.map k e)) (hok : kt.ok a) :
    ∃ o bs', (Builtin.delete_ #[tm, tk] ty #[.map (some g), kt.enc a]).run P w = .ok (.tuple #[]) { w with heap := w.heap.setIfInBounds g o } ∧ MapAt kt t noHole F (w.heap.setIfInBounds g o) g bs' (mdel m a) ∧ (∀ n ∈ bs', n ∈ bs) := by
  obtain ⟨es, clock, bss, h1, h2, h3, h4, h5⟩ := q
  subst h2
  have hgs : g < w.heap.size := h5 g (by simp)
  have hoth : ∀ (o : Obj) (n : Nat), n ≠ g → (w.heap.setIfInBounds g o)[n]? = w.heap[n]? := fun o n hn => by rw [Array.getElem?_setIfInBounds, if_neg (fun e => hn e.symm)]
  have hself : ∀ (o : Obj), (w.heap.setIfInBounds g o)[g]? = some o := fun o => by rw [Array.getElem?_setIfInBounds, if_pos rfl, if_pos hgs]
  have hfr : ∀ (o : Obj) (b' : List Nat) (u : Value) (y : α), (∀ n ∈ b', n ∈ bss.flatten) → t.rel F w.heap b' [u] y → t.rel F (w.heap.setIfInBounds g o) b' [u] y := fun o b' u y hb' hr => t.frame hr fun n hn => hoth o n (by rintro rfl; exact (List.nodup_cons.1 h3).1 (hb' n hn))
  have plain : ∀ (i : Nat) (e : MapEntry) (b' : List Nat), es.toList[i]? = some e → bss[i]? = some b' → (∃ a1, kt.ok a1 ∧ e.key = kt.enc a1 ∧ (a1 = a ∨ a1 ≠ a ∧ ∃ x, m a1 = some x ∧ t.rel F w.heap b' [e.val] x)) := fun i e b' he hb' => by
    obtain ⟨a1, k1, k2, k3⟩ := h4.ent i e b' he hb'
    rcases k3 with ⟨⟨k3, _⟩, k5, _⟩ | ⟨k3, k4⟩
    · exact ⟨a1, k1, k2, .inl k3⟩
    · exact ⟨a1, k1, k2, .inr ⟨fun e1 => k3 u ⟨e1, rfl⟩, k4⟩⟩
  have hall : ∀ a1 y, a1 ≠ a → m a1 = some y → kt.ok a1 ∧ ∃ e ∈ es.toList, e.key = kt.enc a1 := fun a1 y hne hm => h4.all a1 y (fun u' hu => hne hu.1) hm
  rcases kt.find w hok es.toList h4.keys with ⟨f1, f2⟩ | ⟨j, e0, f1, f2, f3⟩
  · refine ⟨.map es clock, g :: bss.flatten, by simp [Builtin.delete_, run_underlying ht, MapKept.run_getObj_map h1, kt.check w _ hok, f1, MapKept.run_setObj_map _ h1, Result.andThen],
      ⟨es, clock, bss, hself _, rfl, h3, ⟨h4.len, fun i e' b' he' hb' => ?_, fun a1 y _ hm => ?_, fun a1 u' hh => hh.elim, h4.apart⟩, fun n hn => by rw [Array.size_setIfInBounds]; exact h5 n hn⟩, fun n hn => hn⟩
    · obtain ⟨a1, k1, k2, k3⟩ := plain i e' b' he' hb'
      have hne : a1 ≠ a := fun e1 => f2 e' (List.mem_of_getElem? he') (e1 ▸ k2)
      rcases k3 with k3 | ⟨_, y, k4, k5⟩
      · exact absurd k3 hne
      · exact ⟨a1, k1, k2, .inr ⟨fun _ h => h, y, by simp [mdel, hne, k4], hfr _ _ _ _ (fun n hn => List.mem_flatten.2 ⟨b', List.mem_of_getElem? hb', hn⟩) k5⟩⟩
    · simp only [mdel] at hm
      split at hm
      · cases hm
      · rename_i hne; exact hall a1 y hne hm
  · have hjl := (List.getElem?_eq_some_iff.1 f2).1
    have hjb : j < bss.length := by rw [h4.len]; exact hjl
    have hjs : j < es.size := by simpa using hjl
    have hsub : (bss.eraseIdx j).flatten.Sublist bss.flatten := by
      rw [List.eraseIdx_eq_take_drop_succ]
      conv => rhs; rw [take_drop_at (List.getElem?_eq_getElem hjb)]
      simp only [List.flatten_append, List.flatten_cons]
      exact List.Sublist.append_left (List.sublist_append_right _ _) _
    have htl : (es.eraseIdxIfInBounds j).toList = es.toList.eraseIdx j := by
      rw [Array.eraseIdxIfInBounds, dif_pos hjs, Array.toList_eraseIdx]
    have hidx : ∀ {β : Type} (l : List β) (i : Nat), (l.eraseIdx j)[i]? = l[if i < j then i else i + 1]? := fun l i => by
      rw [List.getElem?_eraseIdx]; split <;> rfl
    refine ⟨.map (es.eraseIdxIfInBounds j) clock, g :: (bss.eraseIdx j).flatten, by simp [Builtin.delete_, run_underlying ht, MapKept.run_getObj_map h1, kt.check w _ hok, f1, MapKept.run_setObj_map _ h1, Result.andThen],
      ⟨_, clock, bss.eraseIdx j, hself _, rfl, ?_, ⟨?_, fun i e' b' he' hb' => ?_, fun a1 y _ hm => ?_, fun a1 u' hh => hh.elim, ?_⟩, fun n hn => ?_⟩, fun n hn => ?_⟩
    · exact List.nodup_cons.2 ⟨fun hg => (List.nodup_cons.1 h3).1 (hsub.subset hg), hsub.nodup (List.nodup_cons.1 h3).2⟩
    · rw [htl, List.length_eraseIdx, List.length_eraseIdx, if_pos hjb, if_pos hjl, h4.len]
    · rw [htl, hidx] at he'
      rw [hidx] at hb'
      obtain ⟨a1, k1, k2, k3⟩ := plain _ e' b' he' hb'
      have hne : a1 ≠ a := fun e1 => h4.two f2 he' (by split <;> omega) (by rw [f3, k2, e1])
      rcases k3 with k3 | ⟨_, y, k4, k5⟩
      · exact absurd k3 hne
      · exact ⟨a1, k1, k2, .inr ⟨fun _ h => h, y, by simp [mdel, hne, k4], hfr _ _ _ _ (fun n hn => List.mem_flatten.2 ⟨b', List.mem_of_getElem? hb', hn⟩) k5⟩⟩
    · simp only [mdel] at hm
      split at hm
      · cases hm
      · rename_i hne
        obtain ⟨k1, e', he', hk'⟩ := hall a1 y hne hm
        refine ⟨k1, e', ?_, hk'⟩
        rw [htl]
        obtain ⟨i, hi⟩ := List.mem_iff_getElem?.1 he'
        have hij : i ≠ j := fun e1 => by
          subst e1
          rw [f2] at hi
          obtain rfl := Option.some.inj hi
          exact hne (kt.inj k1 hok (by rw [← hk', f3]))
        refine List.mem_of_getElem? (i := if i < j then i else i - 1) ?_
        rw [hidx, ← hi]
        by_cases hlt : i < j
        · rw [if_pos hlt, if_pos hlt]
        · rw [if_neg hlt, if_neg (by omega)]; congr 1; omega
    · rw [htl]; exact h4.apart.sublist (List.eraseIdx_sublist _ _)
    · rw [Array.size_setIfInBounds]
      rcases List.mem_cons.1 hn with rfl | hn
      · exact hgs
      · exact h5 n (List.mem_cons_of_mem _ (hsub.subset hn))
    · rcases List.mem_cons.1 hn with rfl | hn
      · simp
      · exact List.mem_cons_of_mem _ (hsub.subset hn)
end

theorem MapAt.frozen {P : Program} {k : TypeId} {κ α : Type} {kt : Kt P k κ} {t : Tr α} {hole : κ → Value → Prop} {F : Frz} {h : Array Obj} {g : Nat} {bs : List Nat} {m : κ → Option α} (q : MapAt kt (tFz t) hole F h g bs m) : bs = [g] := by
  obtain ⟨es, clock, bss, h1, rfl, h3, h4, h5⟩ := q
  have : bss.flatten = [] := by
    rw [List.flatten_eq_nil_iff]
    intro b hb
    obtain ⟨i, hi⟩ := List.mem_iff_getElem?.1 hb
    have hl := (List.getElem?_eq_some_iff.1 hi).1
    obtain ⟨a, _, _, k3⟩ := h4.ent i _ b (List.getElem?_eq_getElem (by rw [← h4.len]; exact hl)) hi
    rcases k3 with ⟨_, k3, _⟩ | ⟨_, x, _, k3, _⟩
    · exact k3
    · exact k3
  rw [this]

/- keys -/
def ktInt {P : Program} {k : TypeId} {q : IntKind} (hk : P.underlying k = some (.int q)) : Kt P k Int where
  enc n := .int q n
  ok _ := True
  inj := fun _ _ h => by injection h
  check := fun w em a _ => by
    rw [show (10000 : Nat) = 9999 + 1 from rfl, Instr.checkKey]
    simp [run_underlying hk]
  find := fun w a _ es hes => by
    have key : ∀ (es : List MapEntry) (n : Nat), (∀ e ∈ es, ∃ b : Int, e.key = .int q b) →
        (Instr.findNow (.int q) (.int q a) es n = some none ∧ ∀ e ∈ es, e.key ≠ .int q a) ∨ ∃ j e, Instr.findNow (.int q) (.int q a) es n = some (some (n + j, e.val)) ∧ es[j]? = some e ∧ e.key = .int q a := by
      intro es
      induction es with
      | nil => intro n _; exact .inl ⟨rfl, fun e he => by simp at he⟩
      | cons e es ih =>
        intro n hes
        obtain ⟨b, hb⟩ := hes e (by simp)
        simp only [Instr.findNow, Instr.sameNow, hb, if_true]
        by_cases hab : a = b
        · subst hab
          simp only [beq_self_eq_true]
          exact .inr ⟨0, e, by simp, rfl, hb⟩
        · have : (a == b) = false := by simpa using hab
          simp only [this]
          rcases ih (n + 1) fun e' he' => hes e' (by simp [he']) with ⟨i1, i2⟩ | ⟨j, e', i1, i2, i3⟩
          · refine .inl ⟨i1, fun e' he' => ?_⟩
            rcases List.mem_cons.1 he' with rfl | he'
            · rw [hb]; intro h; injection h with _ h; exact hab h.symm
            · exact i2 e' he'
          · exact .inr ⟨j + 1, e', by rw [i1]; congr 3; omega, by simpa using i2, i3⟩
    rcases key es 0 fun e he => (hes e he).imp fun b hb => hb.2 with ⟨h1, h2⟩ | ⟨j, e, h1, h2, h3⟩
    · exact .inl ⟨by simp [Instr.findKey, run_underlying hk, h1], h2⟩
    · exact .inr ⟨j, e, by simp [Instr.findKey, run_underlying hk, h1], h2, h3⟩
  stays := fun w a _ => by
    simp [Instr.keyThatStays, Instr.sameBits]

section
variable {P : Program} {fn : Func} {kk : Kont} {l : Env} {w : World} {ops : Array Oper} {rest : List Oper} {d : Nat} {ty : TypeId} {pos : String} {after : Array Edge} {X : List Nat} {w0 : World} {F0 F : Frz} {L : List Ob}
variable {k e tm : TypeId} {κ α : Type} {kt : Kt P k κ} {x y yv : Operand} {g : Nat} {bs : List Nat} {a : κ} {kv : Value}
theorem W_mkmap (kt : Kt P k κ) (t : To α) (hlt : Nat.blt d fn.ntmps = true) (hS : St X w0 F0 F L w)
    (h : ∀ g w', St X w0 F0 F (.deep (tMap kt t noHole) [g] [.map (some g)] mnil :: L) w' → W P fn kk ops rest ((d, .map (some g)) :: l) w') : W P fn kk ops (⟨some d, .makeMap tm none, ty, pos, after, none⟩ :: rest) l w := by
  have hnew : (w.alloc (.map #[] 0)).heap[w.heap.size]? = some (.map #[] 0) := (MapKept.heap_alloc w _).1
  refine W_val rfl rfl hlt (v := .map (some w.heap.size)) (w' := w.alloc (.map #[] 0)) (fun a ha => by simp [execOp, run_makeMap]) (h _ _ (hS.fresh (alloc_below _ _) ⟨_, rfl, #[], 0, [], hnew, rfl, by simp, ⟨rfl, fun i e b h => by simp at h, fun a x _ hm => by simp [mnil] at hm, fun a u hh => hh.elim, by simp⟩, fun b hb => ?_⟩ fun g' hg' => ?_))
  · simp at hb; subst hb; exact (Array.getElem?_eq_some_iff.1 hnew).1
  · simp [Ob.blks] at hg'; omega
theorem W_lookV {tr : Tr α} {m : κ → Option α} {z : Value} (enc1 : α → Value) (z0 : α) (i : Nat) (hlt : Nat.blt d fn.ntmps = true) (ht : P.underlying tm = some (.map k e)) (hz : ∀ w, (zeroValue e).run P w = .ok z w) (hr : ∀ F v x, tr.rel F [v] x → v = enc1 x) (hz0 : z = enc1 z0)
    (hx : ev l x = some (.map (some g))) (hy : ev l y = some kv) (hkv : kt.enc a = kv) (hok : kt.ok a) (hS : St X w0 F0 F L w) (hi : L[i]? = some (.deep (tMap kt (tFz tr) noHole) bs [.map (some g)] m))
    (h : W P fn kk ops rest ((d, enc1 ((m a).getD z0)) :: l) w) : W P fn kk ops (⟨some d, .lookup tm x y false, ty, pos, after, none⟩ :: rest) l w := by
  subst hkv
  obtain ⟨g', hg', q⟩ := hS.ok hi
  obtain rfl : g = g' := by simpa using hg'
  rcases q.look ht hz hok false with ⟨h1, h2⟩ | ⟨x1, v, b, h1, ⟨_, h2⟩, _, h3⟩
  · refine W_val rfl rfl hlt (w' := w) (fun a ha => by simp [execOp, ha.eval hx, ha.eval hy, h2]) (v := z) ?_
    rw [hz0]; simpa [h1] using h
  · refine W_val rfl rfl hlt (w' := w) (fun a ha => by simp [execOp, ha.eval hx, ha.eval hy, h3]) (v := v) ?_
    rw [hr _ _ _ h2]; simpa [h1] using h
theorem W_lookV2 {tr : Tr α} {m : κ → Option α} {z : Value} (enc1 : α → Value) (z0 : α) (i : Nat) (hlt : Nat.blt d fn.ntmps = true) (ht : P.underlying tm = some (.map k e)) (hz : ∀ w, (zeroValue e).run P w = .ok z w) (hr : ∀ F v x, tr.rel F [v] x → v = enc1 x) (hz0 : z = enc1 z0)
    (hx : ev l x = some (.map (some g))) (hy : ev l y = some kv) (hkv : kt.enc a = kv) (hok : kt.ok a) (hS : St X w0 F0 F L w) (hi : L[i]? = some (.deep (tMap kt (tFz tr) noHole) bs [.map (some g)] m))
    (h : W P fn kk ops rest ((d, .tuple #[enc1 ((m a).getD z0), .bool (m a).isSome]) :: l) w) : W P fn kk ops (⟨some d, .lookup tm x y true, ty, pos, after, none⟩ :: rest) l w := by
  subst hkv
  obtain ⟨g', hg', q⟩ := hS.ok hi
  obtain rfl : g = g' := by simpa using hg'
  rcases q.look ht hz hok true with ⟨h1, h2⟩ | ⟨x1, v, b, h1, ⟨_, h2⟩, _, h3⟩
  · refine W_val rfl rfl hlt (w' := w) (fun a ha => by simp [execOp, ha.eval hx, ha.eval hy, h2]) (v := .tuple #[z, .bool false]) ?_
    rw [hz0]; simpa [h1] using h
  · refine W_val rfl rfl hlt (w' := w) (fun a ha => by simp [execOp, ha.eval hx, ha.eval hy, h3]) (v := .tuple #[v, .bool true]) ?_
    rw [hr _ _ _ h2]; simpa [h1] using h
theorem W_lookS {β : Type} {t : Tr β} {m : κ → Option (List β)} (i : Nat) (hlt : Nat.blt d fn.ntmps = true) (ht : P.underlying tm = some (.map k e)) (hz : ∀ w, (zeroValue e).run P w = .ok (.slice none 0 0) w)
    (hx : ev l x = some (.map (some g))) (hy : ev l y = some kv) (hkv : kt.enc a = kv) (hok : kt.ok a) (hS : St X w0 F0 F L w) (hi : L[i]? = some (.deep (tMap kt (tFz (tSl t)) noHole) bs [.map (some g)] m))
    (h : ∀ v, SlF t F v ((m a).getD []) → W P fn kk ops rest ((d, v) :: l) w) : W P fn kk ops (⟨some d, .lookup tm x y false, ty, pos, after, none⟩ :: rest) l w := by
  subst hkv
  obtain ⟨g', hg', q⟩ := hS.ok hi
  obtain rfl : g = g' := by simpa using hg'
  rcases q.look ht hz hok false with ⟨h1, h2⟩ | ⟨x1, v, b, h1, ⟨_, v', h2, h4⟩, _, h3⟩
  · refine W_val rfl rfl hlt (v := .slice none 0 0) (w' := w) (fun a ha => by simp [execOp, ha.eval hx, ha.eval hy, h2]) (h _ ?_)
    simp only [h1, Option.getD_none]; exact SlF.nil _
  · obtain rfl : v = v' := by simpa using h2
    refine W_val rfl rfl hlt (v := v) (w' := w) (fun a ha => by simp [execOp, ha.eval hx, ha.eval hy, h3]) (h v ?_)
    simpa [h1] using h4
theorem W_lookS2 {β : Type} {t : Tr β} {m : κ → Option (List β)} (i : Nat) (hlt : Nat.blt d fn.ntmps = true) (ht : P.underlying tm = some (.map k e)) (hz : ∀ w, (zeroValue e).run P w = .ok (.slice none 0 0) w)
    (hx : ev l x = some (.map (some g))) (hy : ev l y = some kv) (hkv : kt.enc a = kv) (hok : kt.ok a) (hS : St X w0 F0 F L w) (hi : L[i]? = some (.deep (tMap kt (tFz (tSl t)) noHole) bs [.map (some g)] m))
    (h : ∀ v, SlF t F v ((m a).getD []) → W P fn kk ops rest ((d, .tuple #[v, .bool (m a).isSome]) :: l) w) : W P fn kk ops (⟨some d, .lookup tm x y true, ty, pos, after, none⟩ :: rest) l w := by
  subst hkv
  obtain ⟨g', hg', q⟩ := hS.ok hi
  obtain rfl : g = g' := by simpa using hg'
  rcases q.look ht hz hok true with ⟨h1, h2⟩ | ⟨x1, v, b, h1, ⟨_, v', h2, h4⟩, _, h3⟩
  · refine W_val rfl rfl hlt (w' := w) (fun a ha => by simp [execOp, ha.eval hx, ha.eval hy, h2]) (v := .tuple #[.slice none 0 0, .bool false]) ?_
    have := h (.slice none 0 0) (by simp only [h1, Option.getD_none]; exact SlF.nil _)
    simpa [h1] using this
  · obtain rfl : v = v' := by simpa using h2
    refine W_val rfl rfl hlt (w' := w) (fun a ha => by simp [execOp, ha.eval hx, ha.eval hy, h3]) (v := .tuple #[v, .bool true]) ?_
    have := h v (by simpa [h1] using h4)
    simpa [h1] using this
/-- a frozen value is put -/
theorem W_mapF [DecidableEq κ] {tr : Tr α} {m : κ → Option α} {v z : Value} {x1 : α} (i : Nat) (ht : P.underlying tm = some (.map k e)) (hz : ∀ w, (zeroValue e).run P w = .ok z w)
    (hx : ev l x = some (.map (some g))) (hy : ev l y = some kv) (hkv : kt.enc a = kv) (hok : kt.ok a) (hv : ev l yv = some v) (hr : tr.rel F [v] x1) (hS : St X w0 F0 F L w) (hi : L[i]? = some (.deep (tMap kt (tFz tr) noHole) [g] [.map (some g)] m))
    (h : ∀ w', St X w0 F0 F (L.set i (.deep (tMap kt (tFz tr) noHole) [g] [.map (some g)] (mput m a x1))) w' → W P fn kk ops rest l w') : W P fn kk ops (⟨none, .mapUpdate tm x y yv, ty, pos, after, none⟩ :: rest) l w := by
  subst hkv
  obtain ⟨g', hg', q⟩ := hS.ok hi
  obtain rfl : g = g' := by simpa using hg'
  obtain ⟨u, bs', q1, _, _⟩ := q.dig ht hz hok
  obtain ⟨o, bs2, hrun, q2, _⟩ := q1.fill (x := x1) (b := []) ht hok ⟨rfl, hr⟩ (fun n hn => by simp at hn)
  obtain rfl := q2.frozen
  exact W_unit rfl rfl (fun a ha => by simp [execOp, ha.eval hx, ha.eval hy, ha.eval hv, hrun]) (h _ (hS.putL _ hi (gbl_set o (by simp [Ob.blks])) ⟨g, rfl, q2⟩ fun n hn => .inl hn))
/-- a row of a map is lent -/
theorem W_dig {β : Type} {t : Tr β} {er : TypeId} {m : κ → Option (List β)} (i : Nat) (hlt : Nat.blt d fn.ntmps = true) (ht : P.underlying tm = some (.map k e)) (hz : ∀ w, (zeroValue e).run P w = .ok (.slice none 0 0) w)
    (hx : ev l x = some (.map (some g))) (hy : ev l y = some kv) (hkv : kt.enc a = kv) (hok : kt.ok a) (hS : St X w0 F0 F L w) (hi : L[i]? = some (.deep (tMap kt (tRow t er) noHole) bs [.map (some g)] m))
    (h : ∀ u bs', St X w0 F0 F (.row t er u ((m a).getD []) :: L.set i (.deep (tMap kt (tRow t er) (holeAt a u)) bs' [.map (some g)] m)) w → W P fn kk ops rest ((d, u) :: l) w) : W P fn kk ops (⟨some d, .lookup tm x y false, ty, pos, after, none⟩ :: rest) l w := by
  subst hkv
  obtain ⟨g', hg', q⟩ := hS.ok hi
  obtain rfl : g = g' := by simpa using hg'
  obtain ⟨u, bs', q1, hsub, hc⟩ := q.dig ht hz hok
  rcases hc with ⟨h1, rfl, h2⟩ | ⟨x1, b, h1, ⟨v, hv, rfl, hrow⟩, hb, h2⟩
  · refine W_val rfl rfl hlt (v := .slice none 0 0) (w' := w) (fun a ha => by simp [execOp, ha.eval hx, ha.eval hy, h2]) (h _ bs' ?_)
    refine hS.part _ _ hi ?_ ⟨g, rfl, q1⟩ (fun n hn => ?_) hsub (fun n hn => ?_)
    · simp only [h1, Option.getD_none]
      exact ⟨[], ⟨rfl, fun i d x h _ => by simp at h⟩, Ow.nil _ _ _ _ _ (fun d => d.2)⟩
    · simp [Ob.blks, Value.ownBlock] at hn
    · simp [Ob.blks, Value.ownBlock] at hn
  · obtain rfl : u = v := by simpa using hv
    refine W_val rfl rfl hlt (v := u) (w' := w) (fun a ha => by simp [execOp, ha.eval hx, ha.eval hy, h2]) (h _ bs' ?_)
    refine hS.part _ _ hi ?_ ⟨g, rfl, q1⟩ (fun n hn => (hb n hn).1) hsub (fun n hn => (hb n hn).2)
    simp only [h1, Option.getD_some]
    exact row_heapW.1 hrow
/-- a row comes into a map -/
theorem W_fill [DecidableEq κ] {β : Type} {t : Tr β} {er : TypeId} {m : κ → Option (List β)} {u v : Value} {ys : List β} (i j : Nat) (is : List Nat) (ht : P.underlying tm = some (.map k e))
    (hx : ev l x = some (.map (some g))) (hy : ev l y = some kv) (hkv : kt.enc a = kv) (hok : kt.ok a) (hv : ev l yv = some v) (hS : St X w0 F0 F L w) (hi : L[i]? = some (.deep (tMap kt (tRow t er) (holeAt a u)) bs [.map (some g)] m)) (hj : L[j]? = some (.row t er v ys)) (hij : i ≠ j) (hnd : is.Nodup) (hji : j ∉ is)
    (h : ∀ bs' w', St X w0 F0 F (is.filterMap fun q => (L.set i (.deep (tMap kt (tRow t er) noHole) bs' [.map (some g)] (mput m a ys)))[q]?) w' → W P fn kk ops rest l w') : W P fn kk ops (⟨none, .mapUpdate tm x y yv, ty, pos, after, none⟩ :: rest) l w := by
  subst hkv
  obtain ⟨g', hg', q⟩ := hS.ok hi
  obtain rfl : g = g' := by simpa using hg'
  have hrow := hS.ok hj
  obtain ⟨o, bs2, hrun, q2, hs2⟩ := q.fill (t := tRow t er) (x := ys) (b := v.ownBlock.toList) ht hok ⟨v, rfl, rfl, row_heapW.2 hrow⟩ (fun n hn hn' => hij (hS.apart i j _ _ n hi hj hn' hn))
  have hg : g ∈ bs := by obtain ⟨_, _, _, _, e2, _⟩ := q; rw [e2]; simp
  exact W_unit rfl rfl (fun a ha => by simp [execOp, ha.eval hx, ha.eval hy, ha.eval hv, hrun]) (h bs2 _ (hS.turn2 _ is hi hj hnd hji (gbl_set o (List.mem_append.2 (.inl hg))) ⟨g, rfl, q2⟩ fun n hn => (hs2 n hn).imp id fun r => .inl r))
/-- a lent row comes back -/
theorem St.undig {β : Type} {t : Tr β} {er : TypeId} {m : κ → Option (List β)} {u : Value} {ys : List β} (hS : St X w0 F0 F L w) (i j : Nat) (is : List Nat) (hok : kt.ok a) (hi : L[i]? = some (.deep (tMap kt (tRow t er) (holeAt a u)) bs [.map (some g)] m)) (hj : L[j]? = some (.row t er u ys)) (hys : ys = (m a).getD []) (hij : i ≠ j) (hnd : is.Nodup) (hji : j ∉ is) :
    ∃ bs', St X w0 F0 F (is.filterMap fun q => (L.set i (.deep (tMap kt (tRow t er) noHole) bs' [.map (some g)] m))[q]?) w := by
  obtain ⟨g', hg', q⟩ := hS.ok hi
  obtain rfl : g = g' := by simpa using hg'
  have hrow := hS.ok hj
  obtain ⟨bs2, q2, hs2⟩ := q.undig (t := tRow t er) (x := ys) (b := u.ownBlock.toList) hok (fun _ => ⟨u, rfl, rfl, row_heapW.2 hrow⟩) (fun n hn hn' => hij (hS.apart i j _ _ n hi hj hn' hn)) (by
    cases hm : m a with
    | none => exact .inl rfl
    | some x => rw [hm] at hys; simp at hys; subst hys; exact .inr rfl)
  exact ⟨bs2, hS.turn2 _ is hi hj hnd hji (GbL.refl w _) ⟨g, rfl, q2⟩ fun n hn => (hs2 n hn).imp id fun r => .inl r⟩
/-- a key is taken out of a map, of which its row was lent -/
theorem W_delH [DecidableEq κ] {β : Type} {t : Tr β} {er tk : TypeId} {m : κ → Option (List β)} {u : Value} (i : Nat) (ht : P.underlying tm = some (.map k e))
    (hx : ev l x = some (.map (some g))) (hy : ev l y = some kv) (hkv : kt.enc a = kv) (hok : kt.ok a) (hS : St X w0 F0 F L w) (hi : L[i]? = some (.deep (tMap kt (tRow t er) (holeAt a u)) bs [.map (some g)] m))
    (h : ∀ bs' w', St X w0 F0 F (L.set i (.deep (tMap kt (tRow t er) noHole) bs' [.map (some g)] (mdel m a))) w' → W P fn kk ops rest l w') :
    W P fn kk ops (⟨none, .call { callee := .builtin .delete, args := #[x, y], argTypes := #[tm, tk] }, ty, pos, after, none⟩ :: rest) l w := by
  subst hkv
  obtain ⟨g', hg', q⟩ := hS.ok hi
  obtain rfl : g = g' := by simpa using hg'
  obtain ⟨o, bs2, hrun, q2, hs2⟩ := q.del (ty := ty) (tk := tk) ht hok
  have hg : g ∈ bs := by obtain ⟨_, _, _, _, e2, _⟩ := q; rw [e2]; simp
  exact W_noval (v := .tuple #[]) rfl rfl (fun a ha => by simp [execOp, resolve, invoke, builtin, ha.eval hx, ha.eval hy, hrun]) (h bs2 _ (hS.putL _ hi (gbl_set o hg) ⟨g, rfl, q2⟩ fun n hn => .inl (hs2 n hn)))
/-- .. of which nothing was lent -/
theorem W_delN [DecidableEq κ] {t : To α} {tk : TypeId} {m : κ → Option α} {z : Value} (i : Nat) (ht : P.underlying tm = some (.map k e)) (hz : ∀ w, (zeroValue e).run P w = .ok z w)
    (hx : ev l x = some (.map (some g))) (hy : ev l y = some kv) (hkv : kt.enc a = kv) (hok : kt.ok a) (hS : St X w0 F0 F L w) (hi : L[i]? = some (.deep (tMap kt t noHole) bs [.map (some g)] m))
    (h : ∀ bs' w', St X w0 F0 F (L.set i (.deep (tMap kt t noHole) bs' [.map (some g)] (mdel m a))) w' → W P fn kk ops rest l w') :
    W P fn kk ops (⟨none, .call { callee := .builtin .delete, args := #[x, y], argTypes := #[tm, tk] }, ty, pos, after, none⟩ :: rest) l w := by
  subst hkv
  obtain ⟨g', hg', q⟩ := hS.ok hi
  obtain rfl : g = g' := by simpa using hg'
  obtain ⟨u, bs1, q1, hs1, _⟩ := q.dig ht hz hok
  obtain ⟨o, bs2, hrun, q2, hs2⟩ := q1.del (ty := ty) (tk := tk) ht hok
  have hg : g ∈ bs := by obtain ⟨_, _, _, _, e2, _⟩ := q; rw [e2]; simp
  exact W_noval (v := .tuple #[]) rfl rfl (fun a ha => by simp [execOp, resolve, invoke, builtin, ha.eval hx, ha.eval hy, hrun]) (h bs2 _ (hS.putL _ hi (gbl_set o hg) ⟨g, rfl, q2⟩ fun n hn => .inl (hs1 n (hs2 n hn))))
end
end Go.Wk
