/- Rows of byte slices; a constant's bytes; zeros that are appended. -/
import Derived.Test.YtoanecpanckkeaaMem
import Derived.Lib.AppendZeros
namespace Go.Wk
open Go.RowKit

/-- a slice of byte slices: vs the slice values, bss what they read as -/
structure Rw (lo hi : Nat) (h : Array Obj) (v : Value) (vs : List Value) (bss : List (List UInt8)) : Prop where
  out : Sl lo hi h 1 encV v vs
  len : vs.length = bss.length
  inn : ∀ (i : Nat) (u : Value) (b : List UInt8), vs[i]? = some u → bss[i]? = some b → Sl lo hi h 1 encB u b

theorem Rw.at_ {lo hi : Nat} {h : Array Obj} {v : Value} {vs : List Value} {bss : List (List UInt8)} (r : Rw lo hi h v vs bss) (i : Nat) (hi' : i < vs.length) : Sl lo hi h 1 encB vs[i] (bss[i]'(by rw [← r.len]; exact hi')) :=
  r.inn i _ _ (List.getElem?_eq_getElem hi') (List.getElem?_eq_getElem _)
theorem Rw.keep {lo hi : Nat} {h h' : Array Obj} {v : Value} {vs : List Value} {bss : List (List UInt8)} (r : Rw lo hi h v vs bss) (k : Keep lo hi h h') : Rw lo hi h' v vs bss := ⟨r.out.keep k, r.len, fun i u b h1 h2 => (r.inn i u b h1 h2).keep k⟩
theorem Rw.call {lo hi : Nat} {w w' : World} {v : Value} {vs : List Value} {bss : List (List UInt8)} (r : Rw lo hi w.heap v vs bss) (hb : Below w.heap.size w w') : Rw lo hi w'.heap v vs bss := ⟨r.out.ext hb, r.len, fun i u b h1 h2 => (r.inn i u b h1 h2).ext hb⟩
theorem Rw.upd {lo hi g : Nat} {w w' : World} {v : Value} {vs : List Value} {bss : List (List UInt8)} (r : Rw lo hi w.heap v vs bss) (hu : Upd w w' g) (h : g < lo ∨ hi ≤ g) : Rw lo hi w'.heap v vs bss := r.keep fun b h1 h2 => hu.block b (by omega)
theorem Rw.grown {β : Type} {lo hi base : Nat} {w w' : World} {s2 : Nat} {enc2 : β → List Value} {v u : Value} {vs : List Value} {bss : List (List UInt8)} {es : List β} {e : TypeId} (r : Rw lo hi w.heap v vs bss) (hG : Gb w w' u.ownBlock) (ho : Ow w base e s2 enc2 u es) (h : hi ≤ base ∧ base ≤ w.heap.size) : Rw lo hi w'.heap v vs bss :=
  r.keep (grown_keep hG (by omega) fun b hb => by have := (ho.lt b hb).1; omega)
theorem Rw.widen {lo hi lo' hi' : Nat} {h : Array Obj} {v : Value} {vs : List Value} {bss : List (List UInt8)} (r : Rw lo hi h v vs bss) (h1 : lo' ≤ lo) (h2 : hi ≤ hi') : Rw lo' hi' h v vs bss := ⟨r.out.widen h1 h2, r.len, fun i u b a1 a2 => (r.inn i u b a1 a2).widen h1 h2⟩
theorem stable_rw {lo : Nat} {vs : List Value} {bss : List (List UInt8)} : Stable (fun v w => Rw lo w.heap.size w.heap v vs bss) := fun _ _ _ hb h => (h.call hb).widen (Nat.le_refl _) hb.size

theorem sl_nil {α : Type} (lo hi : Nat) (h : Array Obj) (s : Nat) (enc : α → List Value) (he : ∀ x, (enc x).length = s) : Sl lo hi h s enc (.slice none 0 0) ([] : List α) :=
  ⟨he, none, 0, rfl, by simp, by simp [maxLen], fun _ => rfl, fun ad had => by cases had⟩
theorem rw_nil (lo hi : Nat) (h : Array Obj) : Rw lo hi h (.slice none 0 0) [] [] := ⟨sl_nil _ _ _ _ _ (fun _ => rfl), rfl, fun i u b h1 _ => by simp at h1⟩

/-- the block of a slice value holds elements of this type -/
def Elm (h : Array Obj) (v : Value) (e : TypeId) : Prop := ∀ b, v.ownBlock = some b → ∃ c fr, h[b]? = some (.cells c e fr)
theorem Elm.lt {h : Array Obj} {v : Value} {e : TypeId} (hm : Elm h v e) {b : Nat} (hb : v.ownBlock = some b) : b < h.size := by
  obtain ⟨c, fr, hc⟩ := hm b hb
  exact (Array.getElem?_eq_some_iff.1 hc).1
theorem Elm.same {h h' : Array Obj} {v : Value} {e : TypeId} (hm : Elm h v e) (hk : ∀ b, v.ownBlock = some b → h'[b]? = h[b]?) : Elm h' v e := fun b hb => by
  obtain ⟨c, fr, hc⟩ := hm b hb
  exact ⟨c, fr, (hk b hb).trans hc⟩
theorem Elm.call {w w' : World} {v : Value} {e : TypeId} (hm : Elm w.heap v e) (hb : Below w.heap.size w w') : Elm w'.heap v e := hm.same fun _ h => hb.block _ (hm.lt h)
theorem Elm.apart {h : Array Obj} {u v : Value} {e f : TypeId} (hu : Elm h u e) (hv : Elm h v f) (hne : Nat.beq e f = false) {b : Nat} (h1 : u.ownBlock = some b) : v.ownBlock ≠ some b := by
  intro h2
  obtain ⟨c, fr, hc⟩ := hu b h1
  obtain ⟨c', fr', hc'⟩ := hv b h2
  rw [hc] at hc'
  simp at hc'
  exact Nat.ne_of_beq_eq_false hne hc'.2.1
theorem Ow.elm {α : Type} {w : World} {base : Nat} {e : TypeId} {s : Nat} {enc : α → List Value} {v : Value} {ds : List α} (h : Ow w base e s enc v ds) : Elm w.heap v e := by
  intro b hb
  rcases h.2.2 with ⟨rfl, _⟩ | ⟨g, cap, cur, rfl, _, hg, _⟩
  · simp [Value.ownBlock] at hb
  · simp [Value.ownBlock] at hb; subst hb; exact ⟨_, _, hg⟩
theorem Sl.same {α : Type} {lo hi : Nat} {h h' : Array Obj} {s : Nat} {enc : α → List Value} {v : Value} {ds : List α} (hs : Sl lo hi h s enc v ds) (hk : ∀ b, v.ownBlock = some b → h'[b]? = h[b]?) : Sl lo hi h' s enc v ds := by
  obtain ⟨he, ao, c, rfl, e2, e3, e4, e5⟩ := hs
  refine ⟨he, ao, c, rfl, e2, e3, e4, fun ad had => ⟨fun i d j u hi hj => ?_, (e5 ad had).2⟩⟩
  rw [← (e5 ad had).1 i d j u hi hj]
  refine hc_of_block ?_
  rw [Addr.block_add]
  subst had
  exact hk _ rfl

/-- byte slices that the call collects: eo the elements' type, ei the bytes' -/
structure RwO (B : Nat) (eo ei : TypeId) (w : World) (v : Value) (vs : List Value) (bss : List (List UInt8)) : Prop where
  ow : Ow w B eo 1 encV v vs
  len : vs.length = bss.length
  inn : ∀ (i : Nat) (u : Value) (b : List UInt8), vs[i]? = some u → bss[i]? = some b → Sl B w.heap.size w.heap 1 encB u b ∧ Elm w.heap u ei
theorem RwO.nil (w : World) (B : Nat) (eo ei : TypeId) : RwO B eo ei w (.slice none 0 0) [] [] := ⟨Ow.nil _ _ _ _ _ (fun _ => rfl), rfl, fun i u b h _ => by simp at h⟩
theorem RwO.call {B : Nat} {eo ei : TypeId} {w w' : World} {v : Value} {vs : List Value} {bss : List (List UInt8)} (r : RwO B eo ei w v vs bss) (hb : Below w.heap.size w w') : RwO B eo ei w' v vs bss :=
  ⟨r.ow.call hb, r.len, fun i u b h1 h2 => ⟨((r.inn i u b h1 h2).1.ext hb).widen (Nat.le_refl _) hb.size, (r.inn i u b h1 h2).2.call hb⟩⟩
theorem RwO.append {B : Nat} {eo ei : TypeId} {w w' : World} {v v' u : Value} {vs : List Value} {bss : List (List UInt8)} {b : List UInt8} (r : RwO B eo ei w v vs bss) (hne : Nat.beq ei eo = false) (hs : Sl B w.heap.size w.heap 1 encB u b) (he : Elm w.heap u ei) (hO : Ow w' B eo 1 encV v' (vs ++ [u])) (hG : Gb w w' v.ownBlock) : RwO B eo ei w' v' (vs ++ [u]) (bss ++ [b]) := by
  have key : ∀ x, Elm w.heap x ei → ∀ q, x.ownBlock = some q → w'.heap[q]? = w.heap[q]? := fun x hx q hq => hG.block q (hx.lt hq) (fun e => hx.apart r.ow.elm hne hq e.symm)
  refine ⟨hO, by simp [r.len], fun i x y h1 h2 => ?_⟩
  by_cases hi : i < vs.length
  · rw [List.getElem?_append_left hi] at h1
    rw [List.getElem?_append_left (by rw [← r.len]; exact hi)] at h2
    obtain ⟨a1, a2⟩ := r.inn i x y h1 h2
    exact ⟨(a1.same (key x a2)).widen (Nat.le_refl _) hG.size, a2.same (key x a2)⟩
  · have hi' : i = vs.length := by
      have := (List.getElem?_eq_some_iff.1 h1).1
      simp at this; omega
    subst hi'
    simp at h1
    rw [r.len] at h2
    simp at h2
    subst h1; subst h2
    exact ⟨(hs.same (key _ he)).widen (Nat.le_refl _) hG.size, he.same (key _ he)⟩
theorem RwO.rw {B : Nat} {eo ei : TypeId} {w : World} {v : Value} {vs : List Value} {bss : List (List UInt8)} (r : RwO B eo ei w v vs bss) : Rw B w.heap.size w.heap v vs bss := ⟨r.ow.sl, r.len, fun i u b h1 h2 => (r.inn i u b h1 h2).1⟩

theorem take_eq_succ {α : Type} {as bs : List α} {x : Nat} (h : as.take x = bs.take x) (h1 : x < as.length) (h2 : x < bs.length) (he : ¬ ¬ as[x] = bs[x]) : as.take (x + 1) = bs.take (x + 1) := by
  have he := Classical.not_not.1 he
  rw [List.take_succ_eq_append_getElem h1, List.take_succ_eq_append_getElem h2, h, he]
theorem take_flat_succ {α : Type} (l : List (List α)) (j : Nat) (h : j < l.length) : (l.take (j + 1)).flatten = (l.take j).flatten ++ l[j] := by
  rw [List.take_succ_eq_append_getElem h, List.flatten_append]; simp
theorem take_flat_le {α : Type} (l : List (List α)) (j : Nat) : (l.take j).flatten.length ≤ l.flatten.length := by
  have : l.flatten = (l.take j).flatten ++ (l.drop j).flatten := by rw [← List.flatten_append, List.take_append_drop]
  rw [this]; simp

section
variable {P : Program} {fn : Func} {k : Kont} {l : Env} {w : World} {ops : Array Oper} {rest : List Oper} {d : Nat} {ty : TypeId} {pos : String} {after : Array Edge}

theorem W_cap {t : TypeId} {x : Operand} {ao : Option Addr} {n c : Nat} {e : TypeId} (hlt : Nat.blt d fn.ntmps = true) (ht : P.underlying t = some (.slice e)) (hx : ev l x = some (.slice ao n c)) (h : W P fn k ops rest ((d, .int .i64 (c : Int)) :: l) w) :
    W P fn k ops (⟨some d, .call { callee := .builtin .cap, args := #[x], argTypes := #[t] }, ty, pos, after, none⟩ :: rest) l w :=
  W_val rfl rfl hlt (fun a ha => by simp [execOp, resolve, invoke, builtin, Builtin.cap_, ha.eval hx, run_underlying ht, goInt]) h

theorem W_slice_to {t e : TypeId} {x y : Operand} {ao : Option Addr} {n c : Nat} {kk : IntKind} {m : Int} (b : Nat) (hlt : Nat.blt d fn.ntmps = true) (ht : P.underlying t = some (.slice e)) (hi' : (P.info? e).isSome = true) (hx : ev l x = some (.slice ao n c)) (hy : ev l y = some (.int kk m)) (hm : m = (b : Int)) (hb : b ≤ c)
    (h : W P fn k ops rest ((d, .slice ao b c) :: l) w) : W P fn k ops (⟨some d, .slice t x none (some y) none, ty, pos, after, none⟩ :: rest) l w := by
  obtain ⟨i, hinfo⟩ := Option.isSome_iff_exists.1 hi'
  subst hm
  refine W_val rfl rfl hlt (fun aa ha => ?_) h
  have e0 : (if c = 0 then ao else ao.map (fun x : Addr => x.add 0)) = ao := by
    split
    · rfl
    · cases ao <;> simp [Addr.add_zero']
  simp [execOp, ha.eval hx, ha.eval hy, Instr.sliceAt, Instr.slice, run_underlying ht, Instr.sliceBounds, Instr.sliceBound, asIntOf, sizeOf, typeInfo, hinfo, hb, e0]

theorem W_append_zeros {t tn e : TypeId} {s x : Operand} {z : Value} {bytes : Nat} {kn kk : IntKind} (n : Nat) {m : Int} (hlt : Nat.blt d fn.ntmps = true) (ht : P.underlying t = some (.slice e)) (htn : P.underlying tn = some (.int kn)) (hrow : (P.info? e).map (fun i => (i.zero, i.size, i.bytes)) = some (some z, 1, bytes)) (hz1 : z.cells.size = 1)
    (hs : ev l s = some (.slice none 0 0)) (hx : ev l x = some (.int kk m)) (hm : m = (n : Int)) (h0 : 0 < n) (h63 : n ≤ 9223372036854775807) (h48 : n * bytes ≤ 281474976710656)
    (h : ∀ w' cap cs, n ≤ cap → cap ≤ maxLen → Below w.heap.size w w' → w.heap.size < w'.heap.size → w'.heap[w.heap.size]? = some (.cells cs e (0, 0)) → cs.size = cap → W P fn k ops rest ((d, .slice (some ⟨w.heap.size, 0, none⟩) n cap) :: l) w') :
    W P fn k ops (⟨some d, .call { callee := .builtin .append, args := #[s, x], argTypes := #[t, tn] }, ty, pos, after, none⟩ :: rest) l w := by
  obtain ⟨i, hi, hz0, hz1', hz2⟩ := info_parts hrow
  subst hm
  have hr := Lib.run_append_nil_zeros (P := P) w t tn ty e i z kk kn ht htn hi hz0 n h0 (by omega) (by omega) (by rw [hz2]; exact h48)
  have hge := grownCap_ge w n 0 e
  have hcm := grownCap_le_maxLen w n 0 e (by simp [maxLen]; omega)
  refine W_val rfl rfl hlt (v := .slice (some ⟨w.heap.size, 0, none⟩) n (grownCap w n 0 e)) (w' := w.drew.alloc (Obj.cells (Builtin.zeroCells z.cells n ++ Builtin.zeroCells z.cells (grownCap w n 0 e - n)) e)) (fun a ha => by simp [execOp, resolve, invoke, builtin, ha.eval hs, ha.eval hx, hr]) (h _ _ _ hge hcm ?_ (by simp) (heap_alloc_new w.drew _) ?_)
  · exact ⟨rfl, rfl, rfl, by simp, fun _ hk => heap_alloc_old w.drew _ hk, Nat.le_succ _⟩
  · simp only [Array.size_append, size_zeroCells, hz1]; omega

theorem ow_empty {α : Type} {w : World} {g cap : Nat} {e : TypeId} {cs : Array Value} {enc : α → List Value} {base s : Nat} (hg : w.heap[g]? = some (.cells cs e (0, 0))) (he : ∀ x, (enc x).length = s) (hcs : cs.size = cap * s) (hmax : cap ≤ maxLen) (h1 : base ≤ g) : Ow w base e s enc (.slice (some ⟨g, 0, none⟩) 0 cap) ([] : List α) :=
  ⟨he, by simp, .inr ⟨g, cap, cs, rfl, h1, hg, Nat.zero_le _, hmax, hcs, by simp⟩⟩

/-- a constant's bytes: a mark behind the row -/
theorem W_conv_mark {t e : TypeId} {x : Operand} {g n c : Nat} {cs : List Value} (hlt : Nat.blt d fn.ntmps = true) (ht : P.underlying t = some (.slice e)) (he : P.underlying e = some (.int .u8)) (hx : ev l x = some (.slice (some ⟨g, 0, none⟩) n c)) (hblk : w.heap[g]? = some (.cells cs.toArray e (0, 0)))
    (h : ∀ w', Upd w w' g → w'.heap[g]? = some (.cells cs.toArray e (cs.length, cs.length + 1)) → W P fn k ops rest ((d, .slice (some ⟨g, 0, none⟩) n c) :: l) w') : W P fn k ops (⟨some d, .convert t t x, ty, pos, after, none⟩ :: rest) l w := by
  have hsh : w.shape? g = some (e, cs.length) := by simp [World.shape?, hblk]
  have hup : Upd w (w.freeze ⟨g, cs.length, none⟩ 1) g := by
    refine ⟨by simp [World.freeze], by simp [World.freeze], by simp [World.freeze], by simp [World.freeze], fun q hq => ?_, by simp [World.freeze]⟩
    simp only [World.freeze, Nat.one_ne_zero, if_false, Array.getElem?_modify]
    rw [if_neg (by omega)]
  have hbl : (w.freeze ⟨g, cs.length, none⟩ 1).heap[g]? = some (.cells cs.toArray e (cs.length, cs.length + 1)) := by
    simp [World.freeze, Array.getElem?_modify, hblk]
  refine W_val rfl rfl hlt (fun a ha => ?_) (h _ hup hbl)
  simp [execOp, ha.eval hx, convert, run_underlying ht, run_underlying he, markStringish, hsh]
end
end Go.Wk
