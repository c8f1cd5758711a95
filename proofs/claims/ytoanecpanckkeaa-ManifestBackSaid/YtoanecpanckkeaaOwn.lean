/- Slices of the call's own, written: elements, parts of elements, pieces cleared; a slice against nil. -/
import Derived.Test.YtoanecpanckkeaaStr
import Derived.Laws.Cover3
namespace Go.Wk
open Go.RowKit

section
variable {P : Program}
theorem flat_take {α : Type} {enc : α → List Value} {s : Nat} (he : ∀ x, (enc x).length = s) (ds : List α) (j : Nat) : (ds.flatMap enc).take (j * s) = (ds.take j).flatMap enc := by
  induction ds generalizing j with
  | nil => simp
  | cons x xs ih =>
    cases j with
    | zero => simp
    | succ j =>
      rw [List.flatMap_cons, List.take_succ_cons, List.flatMap_cons, Nat.add_mul, Nat.one_mul, Nat.add_comm, ← ih j]
      have : (enc x).length = s := he x
      rw [← this, List.take_length_add_append]
theorem flat_drop {α : Type} {enc : α → List Value} {s : Nat} (he : ∀ x, (enc x).length = s) (ds : List α) (j : Nat) : (ds.flatMap enc).drop (j * s) = (ds.drop j).flatMap enc := by
  induction ds generalizing j with
  | nil => simp
  | cons x xs ih =>
    cases j with
    | zero => simp
    | succ j =>
      rw [List.flatMap_cons, List.drop_succ_cons, Nat.add_mul, Nat.one_mul, Nat.add_comm, ← ih j]
      have : (enc x).length = s := he x
      rw [← this, List.drop_length_add_append]
theorem zeroCells_flat {α : Type} {enc : α → List Value} {z : Array Value} {x0 : α} {s : Nat} (he : ∀ x, (enc x).length = s) (hz : z.toList = enc x0) (n : Nat) : (Builtin.zeroCells z n).toList = (List.replicate n x0).flatMap enc := by
  have hzs : z.size = s := by rw [← he x0, ← hz]; simp
  apply List.ext_getElem?
  intro q
  have hl1 : (Builtin.zeroCells z n).toList.length = n * s := by rw [Array.length_toList, size_zeroCells, hzs]
  have hl2 : ((List.replicate n x0).flatMap enc).length = n * s := by rw [flat_length he]; simp
  by_cases hq : q < n * s
  · have hr := List.getElem?_eq_getElem (l := (List.replicate n x0).flatMap enc) (i := q) (by omega)
    obtain ⟨i, dd, j, h1, h2, h3⟩ := flat_cells he _ _ _ hr
    have hd : dd = x0 := List.eq_of_mem_replicate (List.mem_of_getElem? h1)
    subst hd
    have hj : j < s := by have := (List.getElem?_eq_some_iff.1 h2).1; rw [he] at this; exact this
    have hm : q % z.size = j := by rw [hzs, h3, Nat.add_comm, Nat.add_mul_mod_self_right, Nat.mod_eq_of_lt hj]
    rw [hr, ← h2, ← hz]
    have hjz : j < z.size := by omega
    have hqz : q < n * z.size := by rw [hzs]; exact hq
    simp [Builtin.zeroCells, hqz, hm, hjz]
  · rw [List.getElem?_eq_none (by omega), List.getElem?_eq_none (by omega)]

theorem flat_set {α : Type} {enc : α → List Value} {s : Nat} (he : ∀ x, (enc x).length = s) {ds : List α} {j f : Nat} {dd x' : α} {c : List Value} (hj : ds[j]? = some dd) (hfit : f + c.length ≤ s) (hnew : enc x' = (enc dd).take f ++ c ++ (enc dd).drop (f + c.length)) :
    (ds.set j x').flatMap enc = (ds.flatMap enc).take (j * s + f) ++ c ++ (ds.flatMap enc).drop (j * s + f + c.length) := by
  obtain ⟨hl, hd⟩ := List.getElem?_eq_some_iff.1 hj
  have h1 : ds = ds.take j ++ dd :: ds.drop (j + 1) := by rw [← hd, List.getElem_cons_drop, List.take_append_drop]
  have hlen : ((ds.take j).flatMap enc).length = j * s := by rw [flat_length he, List.length_take, Nat.min_eq_left (by omega)]
  have hdl : (enc dd).length = s := he dd
  rw [List.set_eq_take_append_cons_drop, if_pos hl, List.flatMap_append, List.flatMap_cons, hnew]
  have h2 : ds.flatMap enc = (ds.take j).flatMap enc ++ (enc dd ++ (ds.drop (j + 1)).flatMap enc) := by
    conv => lhs; rw [h1]
    rw [List.flatMap_append, List.flatMap_cons]
  have h3 : (ds.flatMap enc).take (j * s + f) = (ds.take j).flatMap enc ++ (enc dd).take f := by
    rw [h2, ← hlen, List.take_length_add_append, List.take_append_of_le_length (by omega)]
  have h4 : (ds.flatMap enc).drop (j * s + f + c.length) = (enc dd).drop (f + c.length) ++ (ds.drop (j + 1)).flatMap enc := by
    rw [h2, ← hlen, Nat.add_assoc, List.drop_length_add_append, List.drop_append_of_le_length (by omega)]
  rw [h3, h4]
  simp only [List.append_assoc]

theorem ow_write {α : Type} {w : World} {base : Nat} {e : TypeId} {s : Nat} {enc : α → List Value} {v : Value} {ds ds' : List α} {o : Nat} {c : List Value} (hO : Ow w base e s enc v ds) (hne : 0 < ds.length) (hfit : o + c.length ≤ ds.length * s) (h1 : ∀ u ∈ c, u.oneCell' = true) (hlen : ds'.length = ds.length)
    (hflat : ds'.flatMap enc = (ds.flatMap enc).take o ++ c ++ (ds.flatMap enc).drop (o + c.length)) :
    ∃ g n cap w', v = .slice (some ⟨g, 0, none⟩) n cap ∧ base ≤ g ∧ (storeCells ⟨g, o, none⟩ c).run P w = .ok () w' ∧ Upd w w' g ∧ Ow w' base e s enc v ds' := by
  obtain ⟨he, hl, h2⟩ := hO
  rcases h2 with ⟨_, h0⟩ | ⟨g, cap, cur, rfl, hb, hg, hn, hm, hs, ht⟩
  · omega
  · have hcur : ds.length * s ≤ cur.size := by rw [hs]; exact Nat.mul_le_mul_right _ hn
    have hst := run_storeCells_at P g o e c 0 cur w hg (by omega) h1
    refine ⟨g, ds.length, cap, _, rfl, hb, hst, setRow_upd w g _, he, by rw [hflat, hlen]; simp only [List.length_append, List.length_take, List.length_drop, hl]; omega, .inr ⟨g, cap, _, by rw [hlen], hb, setRow_heap w g cur _ e _ hg, by rw [hlen]; exact hn, hm, ?_, ?_⟩⟩
    · simp [hs]; rw [hs] at hcur; omega
    · rw [hlen, hflat, ← ht]
      have hc : cur.toList.length = cap * s := by simpa using hs
      generalize cur.toList = C at hc ⊢
      have hcl : ds.length * s ≤ C.length := by rw [hc, ← hs]; exact hcur
      simp only [Nat.add_zero]
      have e1 : (C.take (ds.length * s)).take o = C.take o := by rw [List.take_take, Nat.min_eq_left (by omega)]
      have e2 : (C.take (ds.length * s)).drop (o + c.length) = (C.drop (o + c.length)).take (ds.length * s - (o + c.length)) := by rw [List.drop_take]
      have e3 : (C.take o ++ c).length = o + c.length := by rw [List.length_append, List.length_take, Nat.min_eq_left (by omega)]
      rw [e1, e2]
      conv => lhs; rw [show ds.length * s = (C.take o ++ c).length + (ds.length * s - (o + c.length)) by rw [e3]; omega, List.take_length_add_append]
end
theorem Ow.grown {α : Type} {w w' : World} {base : Nat} {e : TypeId} {s : Nat} {enc : α → List Value} {v u : Value} {ds : List α} (h : Ow w base e s enc v ds) (hG : Gb w w' u.ownBlock) (hne : ∀ g, v.ownBlock = some g → u.ownBlock ≠ some g) : Ow w' base e s enc v ds := by
  have hlt := h.lt
  refine ⟨h.1, h.2.1, ?_⟩
  rcases h.2.2 with h2 | ⟨g', cap, cur, hv, hbg, hg, r⟩
  · exact .inl h2
  · subst hv
    have h3 := hlt g' rfl
    have h4 := hne g' rfl
    exact .inr ⟨g', cap, cur, rfl, hbg, by rw [hG.block g' h3.2 (fun q => h4 q.symm)]; exact hg, r⟩
theorem Ow.apart_types {α β : Type} {w : World} {b1 b2 : Nat} {e f : TypeId} {s1 s2 : Nat} {enc1 : α → List Value} {enc2 : β → List Value} {v u : Value} {ds : List α} {es : List β} (h1 : Ow w b1 e s1 enc1 v ds) (h2 : Ow w b2 f s2 enc2 u es) (hne : Nat.beq e f = false) : ∀ g, v.ownBlock = some g → u.ownBlock ≠ some g :=
  fun _ hg => h1.elm.apart h2.elm hne hg
/-- an own slice lies in no block of the ledger with elements of another type -/
theorem Ow.ne_led {α : Type} {w w0 : World} {b B : Nat} {e : TypeId} {s : Nat} {enc : α → List Value} {v : Value} {ds : List α} {L : List Own} {g : Nat} {t : TypeId} {cs : List Value} (h : Ow w b e s enc v ds) (hL : Led B w0 w L) (i : Nat) (hi : L[i]? = some (g, t, cs)) (hne : Nat.beq e t = false) : v.ownBlock ≠ some g := by
  intro hg
  obtain ⟨c, fr, hc⟩ := h.elm g hg
  have := (hL.own i _ hi).2.2
  rw [hc] at this
  simp at this
  exact Nat.ne_of_beq_eq_false hne this.2.1
theorem Led.grownT {β : Type} {B base : Nat} {w0 w w' : World} {L : List Own} {s2 : Nat} {enc2 : β → List Value} {u : Value} {es : List β} {e : TypeId} (h : Led B w0 w L) (hG : Gb w w' u.ownBlock) (ho : Ow w base e s2 enc2 u es) (hb : B ≤ base) (hT : (L.all fun x => !(Nat.beq e x.2.1)) = true) : Led B w0 w' L := by
  refine ⟨Nat.le_trans h.le hG.size, h.below.grown hG h.le (fun k hk => by have := (ho.lt k hk).1; omega), fun i x hx => ?_, h.apart⟩
  obtain ⟨h1, h2, h3⟩ := h.own i x hx
  have hm : x ∈ L := List.mem_of_getElem? hx
  have ht := List.all_eq_true.1 hT x hm
  exact ⟨h1, Nat.lt_of_lt_of_le h2 hG.size, (hG.block _ h2 (fun e' => ho.ne_led h i hx (by simpa using ht) e'.symm)).trans h3⟩
/-- what the slices in a row's elements hold -/
def Dp {σ δ : Type} (lo hi : Nat) (h : Array Obj) (s : Nat) (enc : δ → List Value) (pr : σ → Value) (us : List σ) (ls : List (List δ)) : Prop := us.length = ls.length ∧ ∀ (i : Nat) (x : σ) (l : List δ), us[i]? = some x → ls[i]? = some l → Sl lo hi h s enc (pr x) l
section
variable {σ δ : Type} {lo hi : Nat} {w w' : World} {s : Nat} {enc : δ → List Value} {pr : σ → Value} {us : List σ} {ls : List (List δ)}
theorem Dp.call (h : Dp lo hi w.heap s enc pr us ls) (hb : Below w.heap.size w w') : Dp lo hi w'.heap s enc pr us ls := ⟨h.1, fun i x l h1 h2 => (h.2 i x l h1 h2).ext hb⟩
theorem Dp.upd {g : Nat} (h : Dp lo hi w.heap s enc pr us ls) (hu : Upd w w' g) (hg : g < lo ∨ hi ≤ g) : Dp lo hi w'.heap s enc pr us ls := ⟨h.1, fun i x l h1 h2 => (h.2 i x l h1 h2).upd hu hg⟩
theorem Dp.below {b : Nat} (h : Dp lo hi w.heap s enc pr us ls) (hb : Below b w w') (hi' : hi ≤ b) : Dp lo hi w'.heap s enc pr us ls := ⟨h.1, fun i x l h1 h2 => (h.2 i x l h1 h2).below hb hi'⟩
theorem Dp.grown {β : Type} {base s2 : Nat} {enc2 : β → List Value} {u : Value} {es : List β} {e : TypeId} (h : Dp lo hi w.heap s enc pr us ls) (hG : Gb w w' u.ownBlock) (ho : Ow w base e s2 enc2 u es) (hb : hi ≤ base ∧ base ≤ w.heap.size) : Dp lo hi w'.heap s enc pr us ls := ⟨h.1, fun i x l h1 h2 => (h.2 i x l h1 h2).grown hG ho hb⟩
theorem Dp.widen {lo' hi' : Nat} (h : Dp lo hi w.heap s enc pr us ls) (h1 : lo' ≤ lo) (h2 : hi ≤ hi') : Dp lo' hi' w.heap s enc pr us ls := ⟨h.1, fun i x l a1 a2 => (h.2 i x l a1 a2).widen h1 h2⟩
end

section
variable {P : Program} {fn : Func} {k : Kont} {l : Env} {w : World} {ops : Array Oper} {rest : List Oper} {d : Nat} {ty : TypeId} {pos : String} {after : Array Edge}

theorem W_noval {o : Oper} {v : Value} {w' : World} (hg : o.guard = none) (hd : o.dst = none) (hrun : ∀ a, Slots l fn.ntmps a → (execOp a.eval o).run P w = .ok (.value v) w') (h : W P fn k ops rest l w') : W P fn k ops (o :: rest) l w := by
  intro a ha
  refine wpList_plain hg fun K hK => ?_
  unfold Oper.wp
  rw [hrun a ha]
  simp only [Oper.upon, hd, Act.put]
  exact hK _ _ (h _ ha)
/-- a store into an element, or a part of one, of an own slice -/
theorem W_store_ow {α : Type} {base : Nat} {t e : TypeId} {s : Nat} {enc : α → List Value} {v u : Value} {ds : List α} {xo yo : Operand} {o : Nat} {dd : α} (x' : α) (j f : Nat) (c : List Value) (hx : ev l xo = some (elp v o)) (hy : ev l yo = some u) (hO : Ow w base e s enc v ds) (ho : o = j * s + f) (hj : ds[j]? = some dd)
    (hc : u.cells.toList = c) (hsz : (P.info? t).map (·.size) = some c.length) (h1 : ∀ y ∈ c, y.oneCell' = true) (hfit : f + c.length ≤ s) (hnew : enc x' = (enc dd).take f ++ c ++ (enc dd).drop (f + c.length))
    (h : ∀ w' g, v.ownBlock = some g → base ≤ g → Upd w w' g → Ow w' base e s enc v (ds.set j x') → W P fn k ops rest l w') : W P fn k ops (⟨none, .store t xo yo, ty, pos, after, none⟩ :: rest) l w := by
  have hl := (List.getElem?_eq_some_iff.1 hj).1
  have hfit' : o + c.length ≤ ds.length * s := by
    have : (j + 1) * s ≤ ds.length * s := Nat.mul_le_mul_right _ hl
    rw [Nat.add_mul, Nat.one_mul] at this
    omega
  obtain ⟨g, n, cap, w', hv, hb, hr, hu, hO'⟩ := ow_write (P := P) (ds' := ds.set j x') hO (by omega) hfit' h1 (by simp) (by rw [ho]; exact flat_set hO.1 hj hfit hnew)
  subst hv
  obtain ⟨i, hi, hs⟩ := Option.map_eq_some_iff.1 hsz
  have hcs : u.cells.size = c.length := by rw [← hc]; simp
  refine W_unit rfl rfl (fun a ha => ?_) (h w' g rfl hb hu hO')
  rw [elp] at hx
  have e0 : ({ block := g, off := 0, spot := none } : Addr).add o = ⟨g, o, none⟩ := (Addr.add_lit ..).trans (by rw [Nat.zero_add])
  rw [e0] at hx
  simp [execOp, ha.eval hx, ha.eval hy, Instr.storeAt, Instr.sureAddr, storeVar, sizeOf, typeInfo, hi, hs, hcs, hc, hr]

/-- whether a slice is nil -/
theorem W_eql_nil {α : Type} {lo hi : Nat} {t e t2 : TypeId} {s : Nat} {enc : α → List Value} {v : Value} {ds : List α} {x : Operand} (hlt : Nat.blt d fn.ntmps = true) (ht : P.underlying t = some (.slice e)) (hx : ev l x = some v) (hs : Sl lo hi w.heap s enc v ds)
    (h : ∀ b, (b = true → ds = [] ∧ v = .slice none 0 0) → W P fn k ops rest ((d, .bool b) :: l) w) : W P fn k ops (⟨some d, .binOp .eql t x (.const (.slice none 0 0)) t2, ty, pos, after, none⟩ :: rest) l w := by
  obtain ⟨_, ao, c, rfl, h2, h3, h4, h5⟩ := hs
  refine W_val rfl rfl hlt (v := .bool ao.isNone) (w' := w) (fun a ha => ?_) (h _ fun e => ?_)
  · have e1 : a.eval (.const (.slice none 0 0)) = .slice none 0 0 := rfl
    simp only [execOp, ha.eval hx, e1, eqGuard_at_slice, binOp, Sem.run_bind, Sem.run_pure, Result.andThen_ok, run_equal_slice_nil w t e ao ds.length c ht]
  · cases ao with
    | none =>
      have h0 := h4 rfl
      subst h0
      have : ds = [] := List.eq_nil_of_length_eq_zero (by omega)
      subst this; exact ⟨rfl, rfl⟩
    | some ad => simp at e
/-- a piece of a slice: from i on, n elements -/
def Piece (s : Nat) (v v' : Value) (i n : Nat) : Prop := ∃ ad m c, v = .slice (some ad) m c ∧ v' = .slice (some (if c = i then ad else ad.add (i * s))) n (c - i) ∧ i + n ≤ c
theorem W_slice_pc {α : Type} {lo hi : Nat} {t e : TypeId} {s : Nat} {enc : α → List Value} {v : Value} {ds : List α} {x y : Operand} {kk : IntKind} {m : Int} (i : Nat) (hlt : Nat.blt d fn.ntmps = true) (ht : P.underlying t = some (.slice e)) (hsz : P.cellsOf e = s) (hi' : (P.info? e).isSome = true)
    (hx : ev l x = some v) (hy : ev l y = some (.int kk m)) (hm : m = (i : Int)) (hs : Sl lo hi w.heap s enc v ds) (hne : 0 < ds.length) (hi2 : i ≤ ds.length) (h : ∀ v', Piece s v v' i (ds.length - i) → W P fn k ops rest ((d, v') :: l) w) :
    W P fn k ops (⟨some d, .slice t x (some y) none none, ty, pos, after, none⟩ :: rest) l w := by
  obtain ⟨_, ao, c, rfl, h2, h3, h4, h5⟩ := hs
  obtain ⟨inf, hinfo⟩ := Option.isSome_iff_exists.1 hi'
  have hsz' : inf.size = s := by simpa [Program.cellsOf, hinfo] using hsz
  subst hm
  cases ao with
  | none => exfalso; have := h4 rfl; omega
  | some ad =>
    refine W_val rfl rfl hlt (w' := w) (fun aa ha => ?_) (h _ ⟨ad, ds.length, c, rfl, rfl, by omega⟩)
    simp [execOp, ha.eval hx, ha.eval hy, Instr.sliceAt, Instr.slice, run_underlying ht, Instr.sliceBounds, Instr.sliceBound, asIntOf, sizeOf, typeInfo, hinfo, hsz', hi2]
    split <;> rfl
theorem W_len_pc {t e : TypeId} {s : Nat} {v v' : Value} {i n : Nat} {x : Operand} (hlt : Nat.blt d fn.ntmps = true) (ht : P.underlying t = some (.slice e)) (hx : ev l x = some v') (hp : Piece s v v' i n) (h : W P fn k ops rest ((d, .int .i64 (n : Int)) :: l) w) :
    W P fn k ops (⟨some d, .call { callee := .builtin .len, args := #[x], argTypes := #[t] }, ty, pos, after, none⟩ :: rest) l w := by
  obtain ⟨ad, m, c, rfl, rfl, _⟩ := hp
  exact W_len hlt ht hx h
theorem W_index_pc {t e : TypeId} {s : Nat} {v v' : Value} {i n : Nat} {x y : Operand} {kk : IntKind} {m : Int} (j : Nat) (hlt : Nat.blt d fn.ntmps = true) (ht : P.underlying t = some (.slice e)) (hsz : P.cellsOf e = s) (hi' : (P.info? e).isSome = true)
    (hx : ev l x = some v') (hy : ev l y = some (.int kk m)) (hm : m = (j : Int)) (hp : Piece s v v' i n) (hj : j < n) (h : W P fn k ops rest ((d, elp v ((i + j) * s)) :: l) w) :
    W P fn k ops (⟨some d, .indexAddr t x y, ty, pos, after, none⟩ :: rest) l w := by
  obtain ⟨ad, mm, c, rfl, rfl, hc⟩ := hp
  obtain ⟨inf, hinfo⟩ := Option.isSome_iff_exists.1 hi'
  have hsz' : inf.size = s := by simpa [Program.cellsOf, hinfo] using hsz
  subst hm
  refine W_val rfl rfl hlt (fun a ha => ?_) h
  rw [if_neg (show ¬ c = i by omega)] at hx
  simp [execOp, ha.eval hx, ha.eval hy, Instr.indexAt, run_underlying ht, asIntOf, hj, sizeOf, typeInfo, hinfo, hsz', elp, addr_add_add, Nat.add_mul]

theorem W_clear_pc {α : Type} {base : Nat} {t e : TypeId} {s : Nat} {enc : α → List Value} {v v' : Value} {ds : List α} {x : Operand} {i n : Nat} {z : Value} (x0 : α) (ht : P.underlying t = some (.slice e)) (hz : (P.info? e).bind (·.zero) = some z) (hz0 : z.cells.toList = enc x0) (h1 : ∀ u ∈ enc x0, u.oneCell' = true)
    (hx : ev l x = some v') (hp : Piece s v v' i n) (hO : Ow w base e s enc v ds) (hn : i + n = ds.length)
    (h : ∀ w' g, v.ownBlock = some g → base ≤ g → Upd w w' g → Ow w' base e s enc v (ds.take i ++ List.replicate n x0) → W P fn k ops rest l w') :
    W P fn k ops (⟨none, .call { callee := .builtin .clear, args := #[x], argTypes := #[t] }, ty, pos, after, none⟩ :: rest) l w := by
  obtain ⟨inf, hinf, hzi⟩ := Option.bind_eq_some_iff.1 hz
  have he := hO.1
  obtain ⟨ad, m, c, rfl, rfl, hc⟩ := hp
  by_cases h0 : n = 0
  · subst h0
    have hO2 := hO
    obtain ⟨_, _, h2⟩ := hO2
    rcases h2 with ⟨hv, _⟩ | ⟨g, cap, cur, hv, hb, hg, r⟩
    · cases hv
    · have hti : ds.take i = ds := List.take_of_length_le (by omega)
      refine W_noval (v := .tuple #[]) (w' := w) rfl rfl (fun a ha => ?_) (h w g (by rw [hv]; rfl) hb ⟨rfl, rfl, rfl, rfl, fun _ _ => rfl, Nat.le_refl _⟩ (by simpa [hti] using hO))
      simp [execOp, resolve, invoke, builtin, ha.eval hx, Builtin.clear_, run_underlying ht]
  · have hlen : ((List.replicate n x0).flatMap enc).length = n * s := by rw [flat_length he]; simp
    have hle : i * s + n * s = ds.length * s := by rw [← Nat.add_mul, hn]
    have hone : ∀ u ∈ (List.replicate n x0).flatMap enc, u.oneCell' = true := by
      intro u hu
      obtain ⟨y, hy, hu⟩ := List.mem_flatMap.1 hu
      rw [List.eq_of_mem_replicate hy] at hu
      exact h1 u hu
    obtain ⟨g, n', cap, w', hv, hb, hr, hu, hO'⟩ := ow_write (P := P) (ds' := ds.take i ++ List.replicate n x0) (o := i * s) (c := (List.replicate n x0).flatMap enc) hO (by omega) (by omega) hone (by simp; omega) (by
      rw [List.flatMap_append, flat_take he, List.drop_eq_nil_of_le (by rw [flat_length he, hlen]; omega), List.append_nil])
    injection hv with e1 e2 e3
    obtain rfl := Option.some.inj e1
    refine W_noval (v := .tuple #[]) (w' := w') rfl rfl (fun a ha => ?_) (h w' g rfl hb hu hO')
    rw [if_neg (show ¬ c = i by omega), show ({ block := g, off := 0, spot := none } : Addr).add (i * s) = ⟨g, i * s, none⟩ from (Addr.add_lit ..).trans (by rw [Nat.zero_add])] at hx
    have hzz : (zeroValue e).run P w = .ok z w := by simp [zeroValue, typeInfo, hinf, hzi]
    have hzc := zeroCells_flat he hz0 n
    simp [execOp, resolve, invoke, builtin, ha.eval hx, Builtin.clear_, run_underlying ht, hzz, hzc, hr]
end
end Go.Wk
