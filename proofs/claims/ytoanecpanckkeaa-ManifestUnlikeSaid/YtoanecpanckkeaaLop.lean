/- Rules for the operations of lifted functions; the lifted functions' own words. -/
import Derived.Test.YtoanecpanckkeaaLift
import Derived.Deep.Upon
import Derived.Test.YtoanecpanckkeaaDrawj
namespace Go.Wk
open Go.RowKit
set_option linter.unusedVariables false

/- words of lifted functions -/
def bd {α β : Type} (o : Option α) (f : α → Option β) : Option β := match o with | some x => f x | none => none
theorem bd_some {α β : Type} {o : Option α} {f : α → Option β} {r : β} (h : bd o f = some r) : ∃ x, o = some x ∧ f x = some r := by
  cases o with
  | none => cases h
  | some x => exact ⟨x, rfl, h⟩
/-- an element -/
def ix {α : Type} (l : List α) (i : Int) : Option α := match i with | .ofNat n => l[n]? | .negSucc _ => none
theorem ix_some {α : Type} {l : List α} {i : Int} {x : α} (h : ix l i = some x) : 0 ≤ i ∧ l[i.toNat]? = some x := by
  cases i with
  | ofNat n => exact ⟨Int.natCast_nonneg n, h⟩
  | negSucc n => cases h
/-- l[a:b] -/
def cut {α : Type} (l : List α) (a b : Int) : Option (List α) := if 0 ≤ a ∧ a ≤ b ∧ b ≤ (l.length : Int) then some ((l.take b.toNat).drop a.toNat) else none
theorem cut_some {α : Type} {l r : List α} {a b : Int} (h : cut l a b = some r) : 0 ≤ a ∧ a ≤ b ∧ b ≤ (l.length : Int) ∧ r = (l.take b.toNat).drop a.toNat := by
  unfold cut at h
  split at h
  · rename_i hc; exact ⟨hc.1, hc.2.1, hc.2.2, (Option.some.inj h).symm⟩
  · cases h
def app {α : Type} (xs ys : List α) : Option (List α) := if xs.length + ys.length ≤ 1073741824 then some (xs ++ ys) else none
theorem app_some {α : Type} {xs ys r : List α} (h : app xs ys = some r) : xs.length + ys.length ≤ 1073741824 ∧ r = xs ++ ys := by
  unfold app at h
  split at h
  · rename_i hc; exact ⟨hc, (Option.some.inj h).symm⟩
  · cases h
/-- an element put -/
def put {α : Type} (l : List α) (i : Int) (x : α) : Option (List α) := if 0 ≤ i ∧ i < (l.length : Int) then some (l.set i.toNat x) else none
theorem put_some {α : Type} {l r : List α} {i : Int} {x : α} (h : put l i x = some r) : 0 ≤ i ∧ i < (l.length : Int) ∧ r = l.set i.toNat x := by
  unfold put at h
  split at h
  · rename_i hc; exact ⟨hc.1, hc.2, (Option.some.inj h).symm⟩
  · cases h
def rep {α : Type} (n : Int) (x : α) : Option (List α) := if 0 ≤ n ∧ n ≤ 1073741824 then some (List.replicate n.toNat x) else none
theorem rep_some {α : Type} {n : Int} {x : α} {r : List α} (h : rep n x = some r) : 0 ≤ n ∧ n ≤ 1073741824 ∧ r = List.replicate n.toNat x := by
  unfold rep at h
  split at h
  · rename_i hc; exact ⟨hc.1, hc.2, (Option.some.inj h).symm⟩
  · cases h
abbrev wr (x : Int) : Int := IntKind.i64.wrap x
abbrev wu (x : Int) : Int := IntKind.u64.wrap x
def quo (a b : Int) : Option Int := if b = 0 then none else some (IntKind.i64.wrap (a.tdiv b))
theorem quo_some {a b r : Int} (h : quo a b = some r) : b ≠ 0 ∧ r = IntKind.i64.wrap (a.tdiv b) := by
  unfold quo at h
  split at h
  · cases h
  · rename_i hc; exact ⟨hc, (Option.some.inj h).symm⟩
def rem (a b : Int) : Option Int := if b = 0 then none else some (a.tmod b)
theorem rem_some {a b r : Int} (h : rem a b = some r) : b ≠ 0 ∧ r = a.tmod b := by
  unfold rem at h
  split at h
  · cases h
  · rename_i hc; exact ⟨hc, (Option.some.inj h).symm⟩
/-- where a guard says no -/
def only {α : Type} (b : Bool) (o : Option α) (z : α) : Option α := if b = true then o else some z
def iter {S A : Type} (F : (S → Option A) → S → Option A) : Nat → S → Option A
  | 0, _ => none
  | n + 1, s => F (iter F n) s
def loop {S A : Type} (F : (S → Option A) → S → Option A) (s : S) : Option A := iter F 4611686018427387904 s
theorem if_t {α : Type} {b : Bool} {x y : α} (h : b = true) : (if b = true then x else y) = x := if_pos h
theorem if_f {α : Type} {b : Bool} {x y : α} (h : b = false) : (if b = true then x else y) = y := if_neg (by rw [h]; decide)

/- relations of plain types -/
def tI : Tr Int := { size := 1, rel := fun _ cs x => cs = [.int .i64 x], pos := by decide, len := by rintro _ _ _ rfl; rfl, one := by (rintro _ _ _ rfl u hu; simp at hu; subst hu; rfl), mono := fun _ h => h }
def tB : Tr UInt8 := { size := 1, rel := fun _ cs x => cs = [.int .u8 (x.toNat : Int)], pos := by decide, len := by rintro _ _ _ rfl; rfl, one := by (rintro _ _ _ rfl u hu; simp at hu; subst hu; rfl), mono := fun _ h => h }
def tBool : Tr Bool := { size := 1, rel := fun _ cs x => cs = [.bool x], pos := by decide, len := by rintro _ _ _ rfl; rfl, one := by (rintro _ _ _ rfl u hu; simp at hu; subst hu; rfl), mono := fun _ h => h }
def strV (s : List UInt8) : Value := .string ⟨s.toArray⟩
def tS : Tr (List UInt8) := { size := 1, rel := fun _ cs x => cs = [strV x], pos := by decide, len := by rintro _ _ _ rfl; rfl, one := by (rintro _ _ _ rfl u hu; simp at hu; subst hu; rfl), mono := fun _ h => h }
/-- slices as elements -/
def tSl {α : Type} (t : Tr α) : Tr (List α) where
  size := 1
  rel F cs x := ∃ v, cs = [v] ∧ SlF t F v x
  pos := by decide
  len := by rintro _ _ _ ⟨v, rfl, _⟩; rfl
  one := by rintro _ _ _ ⟨v, rfl, h⟩ u hu; simp at hu; subst hu; exact h.ln.one
  mono := fun l ⟨v, e, h⟩ => ⟨v, e, h.mono l⟩
/-- cells that are told by the value alone -/
def tFlat {α : Type} (s : Nat) (hs : 0 < s) (enc : α → List Value) (ok : α → Prop) (hl : ∀ x, (enc x).length = s) (h1 : ∀ x, ∀ u ∈ enc x, u.oneCell' = true) : Tr α where
  size := s
  rel _ cs x := cs = enc x ∧ ok x
  pos := hs
  len := by rintro _ _ _ ⟨rfl, _⟩; exact hl _
  one := by rintro _ _ _ ⟨rfl, _⟩; exact h1 _
  mono := fun _ h => h
/-- [32]byte -/
def arrCells (n : Nat) (x : List UInt8) : List Value := (List.range n).map fun i => .int .u8 ((x.getD i 0).toNat : Int)
def idCells (x : List UInt8) : List Value := (List.range 32).map fun i => .int .u8 ((x.getD i 0).toNat : Int)
theorem idCells_len (x : List UInt8) : (idCells x).length = 32 := by simp [idCells]
theorem idCells_one {x : List UInt8} {y : Value} (h : y ∈ idCells x) : y.oneCell' = true := by simp [idCells] at h; obtain ⟨_, _, rfl⟩ := h; rfl
def tId : Tr (List UInt8) := tFlat 32 (by decide) idCells (fun x => x.length = 32) (fun x => by simp [idCells]) (fun x u hu => by simp [idCells] at hu; obtain ⟨i, _, rfl⟩ := hu; rfl)

/-- raw cells of some elements -/
def RelV {α : Type} (t : Tr α) (F : Frz) : List (List Value) → List α → Prop
  | [], [] => True
  | c :: cs, x :: xs => t.rel F c x ∧ RelV t F cs xs
  | _, _ => False
theorem RelV.mk {α : Type} {t : Tr α} {F : Frz} : ∀ {cs : List (List Value)} {xs : List α}, RelV t F cs xs → ∃ css : List (Cl t.size), css.map Subtype.val = cs ∧ RelL t F css xs
  | [], [], _ => ⟨[], rfl, rfl, fun i d x h _ => by simp at h⟩
  | c :: cs, x :: xs, ⟨h1, h2⟩ => by
    obtain ⟨css, h3, h4, h5⟩ := RelV.mk h2
    refine ⟨⟨c, t.len h1⟩ :: css, by simp [h3], by simp [h4], fun i d y hi hy => ?_⟩
    cases i with
    | zero => simp at hi hy; subst hi; subst hy; exact h1
    | succ i => exact h5 i d y (by simpa using hi) (by simpa using hy)
  | [], _ :: _, h => h.elim
  | _ :: _, [], h => h.elim

theorem upd_gb {w w' : World} {g : Nat} (h : Upd w w' g) : Gb w w' (some g) := ⟨h.os, h.tape, h.output, by rw [h.size]; exact Nat.le_refl _, fun k hk hne => h.block k (fun e => hne (by rw [e])), h.drawn⟩
theorem map_getD_ok {α β : Type} {f : α → β} {l : List α} {i : Nat} {x : α} (h : l[i]? = some x) : (l.map f)[i]? = some (f x) := by simp [h]

section
variable {P : Program} {fn : Func} {k : Kont} {l : Env} {w : World} {ops : Array Oper} {rest : List Oper} {d : Nat} {ty : TypeId} {pos : String} {after : Array Edge}
variable {X : List Nat} {w0 : World} {F0 F G : Frz} {L : List Ob}

theorem W_lenv {t e : TypeId} {x : Operand} {v : Value} {n : Nat} (hlt : Nat.blt d fn.ntmps = true) (ht : P.underlying t = some (.slice e)) (hx : ev l x = some v) (hn : Ln v n) (h : W P fn k ops rest ((d, .int .i64 (n : Int)) :: l) w) :
    W P fn k ops (⟨some d, .call { callee := .builtin .len, args := #[x], argTypes := #[t] }, ty, pos, after, none⟩ :: rest) l w := by
  obtain ⟨ao, c, rfl, _⟩ := hn
  exact W_len hlt ht hx h
theorem W_ix {t e : TypeId} {s i : Nat} {v : Value} {cs : List Value} {x y : Operand} {kk : IntKind} {n : Int} (hlt : Nat.blt d fn.ntmps = true) (ht : P.underlying t = some (.slice e)) (hsz : P.cellsOf e = s) (hi' : (P.info? e).isSome = true)
    (hx : ev l x = some v) (hy : ev l y = some (.int kk n)) (hE : El w.heap v s i cs) (hn : 0 ≤ n) (hni : n.toNat = i) (h : W P fn k ops rest ((d, elp v (i * s)) :: l) w) : W P fn k ops (⟨some d, .indexAddr t x y, ty, pos, after, none⟩ :: rest) l w := by
  obtain ⟨_, ad, m, c, rfl, hm, _⟩ := hE
  obtain ⟨i', hinfo⟩ := Option.isSome_iff_exists.1 hi'
  have hsz' : i'.size = s := by simpa [Program.cellsOf, hinfo] using hsz
  have hn' : n = (i : Int) := by omega
  subst hn'
  refine W_val rfl rfl hlt (fun a ha => ?_) h
  simp [execOp, ha.eval hx, ha.eval hy, Instr.indexAt, run_underlying ht, asIntOf, hm, sizeOf, typeInfo, hinfo, hsz', elp]
theorem El.form {hh : Array Obj} {s i : Nat} {v : Value} {cs : List Value} (hE : El hh v s i cs) : ∃ ad : Addr, ∀ o, elp v o = .pointer (some (ad.add o)) := by
  obtain ⟨_, ad, m, c, rfl, _⟩ := hE
  exact ⟨ad, fun o => rfl⟩
theorem W_fld {s i sz f : Nat} {v : Value} {cs : List Value} {x : Operand} {o : Nat} (off : Nat) (hlt : Nat.blt d fn.ntmps = true) (hf : fieldOff P s f = some off) (hx : ev l x = some (elp v o)) (hE : El w.heap v sz i cs) (h : W P fn k ops rest ((d, elp v (o + off)) :: l) w) :
    W P fn k ops (⟨some d, .fieldAddr s x f, ty, pos, after, none⟩ :: rest) l w := by
  obtain ⟨ad, had⟩ := hE.form
  refine W_val rfl rfl hlt (fun a ha => ?_) h
  rw [had] at hx ⊢
  simp [execOp, ha.eval hx, run_fieldAt hf, addr_add_add]
theorem W_ld1 {t : TypeId} {s i : Nat} {v u : Value} {cs : List Value} {x : Operand} {o : Nat} (f : Nat) (hlt : Nat.blt d fn.ntmps = true) (ht : cellType (P.underlying t) = true) (hx : ev l x = some (elp v o)) (hE : El w.heap v s i cs) (ho : o = i * s + f) (hu : cs[f]? = some u)
    (h : W P fn k ops rest ((d, u) :: l) w) : W P fn k ops (⟨some d, .load t x, ty, pos, after, none⟩ :: rest) l w :=
  W_val rfl rfl hlt (fun a ha => by
    obtain ⟨_, ad, m, c, rfl, hm, hc⟩ := hE
    have hcell := hc f u hu
    subst ho
    simp [execOp, ha.eval hx, elp, Instr.loadAt, Instr.sureAddr, run_loadVar_cell ht hcell]) h
theorem W_ldg {t : TypeId} {s i : Nat} {v : Value} {cs : List Value} {x : Operand} {o : Nat} (f : Nat) (cs' : List Value) (hlt : Nat.blt d fn.ntmps = true) (ht : aggType (P.underlying t) = true) (hi' : (P.info? t).map (·.size) = some cs'.length) (hx : ev l x = some (elp v o)) (hE : El w.heap v s i cs)
    (ho : o = i * s + f) (hcs : ∀ (q : Nat) (u : Value), cs'[q]? = some u → cs[f + q]? = some u) (h : W P fn k ops rest ((d, .agg cs'.toArray) :: l) w) : W P fn k ops (⟨some d, .load t x, ty, pos, after, none⟩ :: rest) l w :=
  W_val rfl rfl hlt (fun a ha => by
    obtain ⟨_, ad, m, c, rfl, hm, hc⟩ := hE
    have hr := run_loadVar_agg (P := P) (w := w) (a := ad.add o) ht hi' (fun q u hq => by
      rw [addr_add_add, cell_hc, ho, Nat.add_assoc]
      exact hc (f + q) u (hcs q u hq))
    simp [execOp, ha.eval hx, elp, Instr.loadAt, Instr.sureAddr, hr]) h
theorem W_cutF {α : Type} {tr : Tr α} {t e : TypeId} {v : Value} {xs : List α} {x : Operand} {ol oh : Option Operand} (a b : Nat) (hlt : Nat.blt d fn.ntmps = true) (ht : P.underlying t = some (.slice e)) (hsz : P.cellsOf e = tr.size) (hi' : (P.info? e).isSome = true)
    (hx : ev l x = some v) (hl : match ol with | none => a = 0 | some y => ∃ kk n, ev l y = some (.int kk n) ∧ 0 ≤ n ∧ n.toNat = a) (hh : match oh with | none => b = xs.length | some y => ∃ kk n, ev l y = some (.int kk n) ∧ 0 ≤ n ∧ n.toNat = b) (hs : SlF tr F v xs) (hab : a ≤ b) (hb : b ≤ xs.length)
    (h : ∀ v', SlF tr F v' ((xs.take b).drop a) → W P fn k ops rest ((d, v') :: l) w) : W P fn k ops (⟨some d, .slice t x ol oh none, ty, pos, after, none⟩ :: rest) l w := by
  obtain ⟨ao, c, rfl, hc, hp⟩ := hs.piece hab hb
  obtain ⟨i, hinfo⟩ := Option.isSome_iff_exists.1 hi'
  have hsz' : i.size = tr.size := by simpa [Program.cellsOf, hinfo] using hsz
  have hbc : b ≤ c := Nat.le_trans hb hc
  refine W_val rfl rfl hlt (w' := w) (fun aa ha => ?_) (h _ (hp c (Nat.le_refl _) hbc))
  cases ol with
  | none =>
    simp only at hl
    subst hl
    cases oh with
    | none =>
      simp only at hh; subst hh
      simp [execOp, ha.eval hx, Instr.sliceAt, Instr.slice, run_underlying ht, Instr.sliceBounds, sizeOf, typeInfo, hinfo]
    | some y =>
      obtain ⟨kk, n, hy, hn0, hn⟩ := hh
      have hn' : n = (b : Int) := by omega
      subst hn'
      simp [execOp, ha.eval hx, ha.eval hy, Instr.sliceAt, Instr.slice, run_underlying ht, Instr.sliceBounds, Instr.sliceBound, asIntOf, sizeOf, typeInfo, hinfo, hbc]
  | some y1 =>
    obtain ⟨kk1, n1, hy1, hn10, hn1⟩ := hl
    have hn1' : n1 = (a : Int) := by omega
    subst hn1'
    cases oh with
    | none =>
      simp only at hh; subst hh
      simp [execOp, ha.eval hx, ha.eval hy1, Instr.sliceAt, Instr.slice, run_underlying ht, Instr.sliceBounds, Instr.sliceBound, asIntOf, sizeOf, typeInfo, hinfo, hsz', hab]
    | some y =>
      obtain ⟨kk, n, hy, hn0, hn⟩ := hh
      have hn' : n = (b : Int) := by omega
      subst hn'
      simp [execOp, ha.eval hx, ha.eval hy1, ha.eval hy, Instr.sliceAt, Instr.slice, run_underlying ht, Instr.sliceBounds, Instr.sliceBound, asIntOf, sizeOf, typeInfo, hinfo, hsz', hbc, hab]

/-- what an append takes its elements from -/
def Src {α : Type} (t : Tr α) (F : Frz) (w : World) (x : Value) (ys : List α) : Prop := ∃ css : List (Cl t.size), RelL t F css ys ∧ Sl 0 w.heap.size w.heap t.size Subtype.val x css
theorem SlF.src {α : Type} {t : Tr α} {x : Value} {ys : List α} (h : SlF t F x ys) (a : Agree F w.heap) : Src t F w x ys := by
  obtain ⟨css, h1, h2⟩ := h
  exact ⟨css, h1, h2.sl a t.pos⟩
theorem St.rowSrc {α : Type} {t : Tr α} {e : TypeId} {v : Value} {xs : List α} {j : Nat} (h : St X w0 F0 F L w) (hj : L[j]? = some (.row t e v xs)) : Src t F w v xs := by
  obtain ⟨css, h1, h2⟩ := h.ok hj
  exact ⟨css, h1, h2.sl⟩
theorem W_app {α : Type} {t : Tr α} {ts e : TypeId} {s bytes : Nat} {z v x : Value} {xs ys : List α} {sx xx : Operand} (i : Nat) (hlt : Nat.blt d fn.ntmps = true) (ht : P.underlying ts = some (.slice e)) (hrow : (P.info? e).map (fun i => (i.zero, i.size, i.bytes)) = some (some z, s, bytes)) (hzs : z.cells.size = s) (hts : t.size = s) (hby : Nat.ble bytes 131072 = true)
    (hs : ev l sx = some v) (hxx : ev l xx = some x) (hS : St X w0 F0 F L w) (hi : L[i]? = some (.row t e v xs)) (hx : Src t F w x ys) (hn : xs.length + ys.length ≤ 1073741824)
    (h : ∀ v' w', St X w0 F0 F (L.set i (.row t e v' (xs ++ ys))) w' → W P fn k ops rest ((d, v') :: l) w') :
    W P fn k ops (⟨some d, .call { callee := .builtin .append, args := #[sx, xx], argTypes := #[ts, ts] }, ty, pos, after, none⟩ :: rest) l w := by
  subst hts
  obtain ⟨css, hr, hO⟩ := hS.ok hi
  obtain ⟨css2, hr2, hx2⟩ := hx
  have hb : bytes ≤ 131072 := Nat.le_of_ble_eq_true hby
  have hln : css.length + css2.length ≤ 1073741824 := by rw [hr.1, hr2.1]; exact hn
  have hbytes : (css.length + css2.length) * bytes ≤ 140737488355328 := Nat.le_trans (Nat.mul_le_mul hln hb) (by decide)
  refine W_append hlt ht hrow hzs t.pos hs hxx hO hx2 (fun y hy u hu => ?_) (by simp only [maxLen]; omega) hbytes (Nat.zero_le _) fun v' w' hO' hG hN => ?_
  · obtain ⟨q, hq⟩ := List.mem_iff_getElem?.1 hy
    have hql := (List.getElem?_eq_some_iff.1 hq).1
    exact t.one (hr2.2 q y _ hq (List.getElem?_eq_getElem (by rw [← hr2.1]; exact hql))) u hu
  · refine h v' w' (hS.put _ hi hG ⟨css ++ css2, ⟨by simp [hr.1, hr2.1], fun q dd y hq hy => ?_⟩, hO'⟩ ?_)
    · by_cases hlq : q < css.length
      · rw [List.getElem?_append_left hlq] at hq
        rw [List.getElem?_append_left (by rw [← hr.1]; exact hlq)] at hy
        exact hr.2 q dd y hq hy
      · rw [List.getElem?_append_right (by omega)] at hq
        rw [List.getElem?_append_right (by rw [← hr.1]; omega), ← hr.1] at hy
        exact hr2.2 _ dd y hq hy
    · rcases hN with hN | ⟨g, hg, hv⟩
      · exact .inl (by simp [Ob.blks, hN])
      · exact .inr fun g' hg' => by have : some g = some g' := hv.symm.trans (mem_row.1 hg'); obtain rfl := Option.some.inj this; exact hg
theorem W_bs {α : Type} {t : Tr α} {ts e : TypeId} {n s : Nat} {parts : List (Nat × Operand)} {z : Value} {vs : List Value} (cs : List (List Value)) (xs : List α) (hlt : Nat.blt d fn.ntmps = true) (ht : P.underlying ts = some (.slice e)) (hsz : P.cellsOf e = s) (hts : t.size = s) (hs1 : Nat.ble s 1000 = true) (hz : (P.info? e).bind (·.zero) = some z)
    (hp : evp l parts 0 = some vs) (hcs : (vs.map fun v => v.cells.toList) = cs) (hr : RelV t F cs xs) (hn : n = xs.length) (hle : Nat.ble xs.length 1000 = true) (hS : St X w0 F0 F L w)
    (h : ∀ v w', St X w0 F0 F (.row t e v xs :: L) w' → W P fn k ops rest ((d, v) :: l) w') : W P fn k ops (⟨some d, .buildSlice ts n parts.toArray, ty, pos, after, none⟩ :: rest) l w := by
  subst hts
  obtain ⟨css, h1, h2⟩ := hr.mk
  have hln : css.length = xs.length := h2.1
  refine W_bslice_s (s := t.size) (Subtype.val : Cl t.size → List Value) css hlt ht hsz (by have := t.pos; simpa using this) hs1 hz hp (by rw [hcs, h1]) (fun x => x.2) (by rw [hln]; exact hn) (by rw [hln]; exact hle) fun v w' hsz' hb hO => ?_
  refine h v w' (hS.fresh hb ⟨css, h2, ?_⟩ (fun g hg => (hO.lt g (mem_row.1 hg)).1))
  obtain ⟨a1, a2, a3⟩ := hO
  refine ⟨a1, a2, ?_⟩
  rcases a3 with a3 | ⟨g, cap, cur, hv, _, r⟩
  · exact .inl a3
  · exact .inr ⟨g, cap, cur, hv, Nat.zero_le _, r⟩
/-- a store into an element of an own row, or a part of it -/
theorem W_put {α : Type} {tr : Tr α} {t e : TypeId} {v u : Value} {xs : List α} {xo yo : Operand} {o : Nat} (i j f : Nat) (x x' : α) (c : List Value) (hx : ev l xo = some (elp v o)) (hy : ev l yo = some u) (hS : St X w0 F0 F L w) (hi : L[i]? = some (.row tr e v xs)) (hj : xs[j]? = some x) (ho : o = j * tr.size + f)
    (hc : u.cells.toList = c) (hsz : (P.info? t).map (·.size) = some c.length) (h1 : ∀ y ∈ c, y.oneCell' = true) (hfit : f + c.length ≤ tr.size) (hrel : ∀ cs, tr.rel F cs x → tr.rel F (cs.take f ++ c ++ cs.drop (f + c.length)) x')
    (h : ∀ w', St X w0 F0 F (L.set i (.row tr e v (xs.set j x'))) w' → W P fn k ops rest l w') : W P fn k ops (⟨none, .store t xo yo, ty, pos, after, none⟩ :: rest) l w := by
  obtain ⟨css, hr, hO⟩ := hS.ok hi
  have hjl := (List.getElem?_eq_some_iff.1 hj).1
  have hd := List.getElem?_eq_getElem (l := css) (i := j) (by rw [hr.1]; exact hjl)
  have hrd := hr.2 _ _ _ hd hj
  have hnew := hrel _ hrd
  refine W_store_ow (⟨_, tr.len hnew⟩ : Cl tr.size) j f c hx hy hO ho hd hc hsz h1 hfit rfl fun w' g hg hbg hU hO' => ?_
  refine h w' (hS.put _ hi (b := v.ownBlock) (by rw [hg]; exact upd_gb hU) ⟨_, ⟨by simp [hr.1], fun q dd y hq hy => ?_⟩, hO'⟩ (.inl rfl))
  rw [List.getElem?_set] at hq hy
  split at hq
  · rename_i hjq
    rw [if_pos hjq, if_pos hjl] at hy
    rw [if_pos (by rw [hr.1]; exact hjl)] at hq
    obtain rfl := Option.some.inj hq
    obtain rfl := Option.some.inj hy
    exact hnew
  · rename_i hjq
    rw [if_neg hjq] at hy
    exact hr.2 q dd y hq hy

/- boxes -/
theorem W_alc {t : TypeId} {z : Value} {cs : List Value} (hlt : Nat.blt d fn.ntmps = true) (hz : (P.info? t).bind (·.zero) = some z) (hcs : z.cells.toList = cs) (hS : St X w0 F0 F L w)
    (h : ∀ g w', St X w0 F0 F (.box g t cs :: L) w' → W P fn k ops rest ((d, pl g 0) :: l) w') : W P fn k ops (⟨some d, .alloc t, ty, pos, after, none⟩ :: rest) l w := by
  subst hcs
  refine W_alloc hlt hz fun g w' hg hsz hb hblk => h g w' (hS.fresh hb (o := .box g t _) hblk fun g' hg' => ?_)
  simp [Ob.blks] at hg'
  omega
theorem W_bx {t : TypeId} {x : Operand} {v : Value} {cs : List Value} (hlt : Nat.blt d fn.ntmps = true) (hx : ev l x = some v) (hcs : v.cells.toList = cs) (hS : St X w0 F0 F L w)
    (h : ∀ g w', St X w0 F0 F (.box g t cs :: L) w' → W P fn k ops rest ((d, pl g 0) :: l) w') : W P fn k ops (⟨some d, .box t x, ty, pos, after, none⟩ :: rest) l w := by
  refine W_box hlt hx hcs fun g w' hg hsz hb hblk => h g w' (hS.fresh hb (o := .box g t cs) hblk fun g' hg' => ?_)
  simp [Ob.blks] at hg'
  omega
theorem W_bld1 {t e : TypeId} {x : Operand} {g o : Nat} {cs : List Value} {u : Value} (i : Nat) (hlt : Nat.blt d fn.ntmps = true) (ht : cellType (P.underlying t) = true) (hx : ev l x = some (pl g o)) (hS : St X w0 F0 F L w) (hi : L[i]? = some (.box g e cs)) (hu : cs[o]? = some u)
    (h : W P fn k ops rest ((d, u) :: l) w) : W P fn k ops (⟨some d, .load t x, ty, pos, after, none⟩ :: rest) l w :=
  W_val rfl rfl hlt (fun a ha => by
    have hb : w.heap[g]? = some (.cells cs.toArray e (0, 0)) := hS.ok hi
    have hcell : hc w.heap ⟨g, o, none⟩ = some u := by simp [hc, hb, hu]
    simp [execOp, ha.eval hx, pl, Instr.loadAt, Instr.sureAddr, run_loadVar_cell ht hcell]) h
theorem W_bldg {t e : TypeId} {x : Operand} {g o : Nat} {cs : List Value} (i : Nat) (cs' : List Value) (hlt : Nat.blt d fn.ntmps = true) (ht : aggType (P.underlying t) = true) (hi' : (P.info? t).map (·.size) = some cs'.length) (hx : ev l x = some (pl g o)) (hS : St X w0 F0 F L w) (hi : L[i]? = some (.box g e cs))
    (hcs : ∀ (q : Nat) (u : Value), cs'[q]? = some u → cs[o + q]? = some u) (h : W P fn k ops rest ((d, .agg cs'.toArray) :: l) w) : W P fn k ops (⟨some d, .load t x, ty, pos, after, none⟩ :: rest) l w :=
  W_val rfl rfl hlt (fun a ha => by
    have hb : w.heap[g]? = some (.cells cs.toArray e (0, 0)) := hS.ok hi
    have hr := run_loadVar_agg (P := P) (w := w) (a := ⟨g, o, none⟩) ht hi' (fun q u hq => by
      rw [Addr.add_lit, cell_hc]
      simp [hc, hb, hcs q u hq])
    simp [execOp, ha.eval hx, pl, Instr.loadAt, Instr.sureAddr, hr]) h
theorem W_bst {t e : TypeId} {x y : Operand} {g o : Nat} {cs c : List Value} {v : Value} (i : Nat) (cs' : List Value) (hx : ev l x = some (pl g o)) (hy : ev l y = some v) (hS : St X w0 F0 F L w) (hi : L[i]? = some (.box g e cs)) (hc : v.cells.toList = c)
    (hsz : (P.info? t).map (·.size) = some c.length) (h1 : ∀ u ∈ c, u.oneCell' = true) (hfit : o + c.length ≤ cs.length) (hcs : cs.take o ++ c ++ cs.drop (o + c.length) = cs')
    (h : ∀ w', St X w0 F0 F (L.set i (.box g e cs')) w' → W P fn k ops rest l w') : W P fn k ops (⟨none, .store t x y, ty, pos, after, none⟩ :: rest) l w := by
  subst hc; subst hcs
  have hb : w.heap[g]? = some (.cells cs.toArray e (0, 0)) := hS.ok hi
  obtain ⟨w', hrun, hu, hb'⟩ := run_storeAt_own (P := P) (t := t) (v := v) hb (by simpa using hsz) h1 (by simpa using hfit)
  refine W_unit rfl rfl (fun a ha => by simp [execOp, ha.eval hx, ha.eval hy, hrun]) (h w' (hS.put _ hi (upd_gb hu) ?_ (.inl rfl)))
  simpa [Ob.ok] using hb'

/- loops -/
def AgainM {S A : Type} (n : Nat) (Inv : S → Env → World → Prop) (rec : S → Option A) (a : A) : Act → World → Prop := fun act w => ∃ s E, Inv s E w ∧ Slots E n act ∧ rec s = some a
theorem C_loopM {S A : Type} {a : A} {c : Code} {n : Nat} {Fn : (S → Option A) → S → Option A} {s0 : S} (Inv : S → Env → World → Prop) (H : iter Fn n s0 = some a) (h0 : ∃ E, Inv s0 E w ∧ Sub E l)
    (round : ∀ (rec : S → Option A) s E w', Inv s E w' → Fn rec s = some a → C P fn (.loop (AgainM fn.ntmps Inv rec a) k) c E w') : C P fn k (.loop c) l w := by
  intro act ha
  obtain ⟨E0, hI0, hsub⟩ := h0
  refine wp_loop_ghost (fun m act w => ∃ s E, Inv s E w ∧ Slots E fn.ntmps act ∧ iter Fn m s = some a) n ⟨s0, E0, hI0, ha.sub hsub, H⟩ ?_
  rintro m a' w' ⟨s, E, hI, hs, hm⟩
  cases m with
  | zero => cases hm
  | succ m =>
    refine wp_mono (round (iter Fn m) s E w' hI hm a' hs) ?_
    intro e a2 w2 hq
    cases e with
    | normal =>
      obtain ⟨s', E', hI', hs', hr⟩ := hq
      exact ⟨m, Nat.lt_succ_self m, s', E', hI', hs', hr⟩
    | exit id => exact hq
    | goto l => exact hq
    | ret => exact hq
    | panic ch => exact hq
    | outgrown => exact hq
theorem N_againM {S A : Type} {Inv : S → Env → World → Prop} {rec : S → Option A} {a : A} (s : S) (E : Env) (H : rec s = some a) (hI : Inv s E w) (hE : Sub E l) : N P fn (.loop (AgainM fn.ntmps Inv rec a) k) l w :=
  N_loop fun _ ha => ⟨s, E, hI, ha.sub hE, H⟩
end
end Go.Wk
namespace Go.Wk
open Go.RowKit
set_option linter.unusedVariables false
theorem only_t {α : Type} {b : Bool} {o : Option α} {z : α} (h : b = true) : only b o z = o := if_pos h
theorem sub_at {cs cs' post : List Value} {f : Nat} (h : cs.drop f = cs' ++ post) {q : Nat} {u : Value} (hq : cs'[q]? = some u) : cs[f + q]? = some u := by
  rw [← List.getElem?_drop, h, List.getElem?_append_left (List.getElem?_eq_some_iff.1 hq).1]; exact hq
theorem stable_src {α : Type} {t : Tr α} {F : Frz} {ys : List α} : Stable (fun v w => Src t F w v ys) := by
  rintro v w1 w2 hb ⟨css, h1, h2⟩
  exact ⟨css, h1, (h2.ext hb).widen (Nat.le_refl _) hb.size⟩
theorem stable_row {α : Type} {t : Tr α} {F : Frz} {e : TypeId} {xs : List α} {n : Nat} : Stable (fun v w => Ob.ok F w (.row t e v xs) ∧ ∀ g, v.ownBlock = some g → n ≤ g) := by
  rintro v w1 w2 hb ⟨h1, h2⟩
  exact ⟨h1.frame fun g hg => hb.block g (h1.lt hg), h2⟩
section
variable {P : Program} {fn : Func} {k : Kont} {l : Env} {w : World} {ops : Array Oper} {rest : List Oper} {d : Nat} {ty : TypeId} {pos : String} {after : Array Edge}
variable {X : List Nat} {w0 : World} {F0 F G : Frz} {L : List Ob}
theorem C_join (J : Env → World → Prop) {c : Code} (hx : C P fn (.loop (Join fn.ntmps J) k) c l w) (h : ∀ l' w', J l' w' → N P fn k l' w') : C P fn k c l w := by
  intro a ha
  refine wp_mono (hx a ha) ?_
  intro e a2 w2 hq
  cases e with
  | normal => obtain ⟨l', hJ, hs⟩ := hq; exact h l' w2 hJ a2 hs
  | exit id => exact hq
  | goto l => exact hq
  | ret => exact hq
  | panic ch => exact hq
  | outgrown => exact hq
theorem W_appM {α : Type} {t : Tr α} {ts e : TypeId} {s bytes : Nat} {z v x : Value} {xs ys zs : List α} {sx xx : Operand} (i : Nat) (hlt : Nat.blt d fn.ntmps = true) (ht : P.underlying ts = some (.slice e)) (hrow : (P.info? e).map (fun i => (i.zero, i.size, i.bytes)) = some (some z, s, bytes)) (hzs : z.cells.size = s) (hts : t.size = s) (hby : Nat.ble bytes 131072 = true)
    (hs : ev l sx = some v) (hxx : ev l xx = some x) (hS : St X w0 F0 F L w) (hi : L[i]? = some (.row t e v xs)) (hx : Src t F w x ys) (hn : app xs ys = some zs)
    (h : ∀ v' w', St X w0 F0 F (L.set i (.row t e v' zs)) w' → W P fn k ops rest ((d, v') :: l) w') :
    W P fn k ops (⟨some d, .call { callee := .builtin .append, args := #[sx, xx], argTypes := #[ts, ts] }, ty, pos, after, none⟩ :: rest) l w := by
  obtain ⟨hn2, rfl⟩ := app_some hn
  exact W_app i hlt ht hrow hzs hts hby hs hxx hS hi hx hn2 h
/-- an append to nothing: a row of its own -/
theorem W_app0 {α : Type} {t : Tr α} {ts e : TypeId} {s bytes : Nat} {z x : Value} {ys zs : List α} {sx xx : Operand} (hlt : Nat.blt d fn.ntmps = true) (ht : P.underlying ts = some (.slice e)) (hrow : (P.info? e).map (fun i => (i.zero, i.size, i.bytes)) = some (some z, s, bytes)) (hzs : z.cells.size = s) (hts : t.size = s) (hby : Nat.ble bytes 131072 = true)
    (hs : ev l sx = some (.slice none 0 0)) (hxx : ev l xx = some x) (hA : Agree F w.heap) (hx : Src t F w x ys) (hn : app [] ys = some zs)
    (h : ∀ v' w', Below w.heap.size w w' → Ob.ok F w' (.row t e v' zs) → (∀ g, v'.ownBlock = some g → w.heap.size ≤ g) → W P fn k ops rest ((d, v') :: l) w') :
    W P fn k ops (⟨some d, .call { callee := .builtin .append, args := #[sx, xx], argTypes := #[ts, ts] }, ty, pos, after, none⟩ :: rest) l w := by
  have h0 := (St.entry hA).nilRow t e
  refine W_appM 0 hlt ht hrow hzs hts hby hs hxx h0 rfl hx hn fun v' w' hS => ?_
  have hS' : St [] w F F [.row t e v' zs] w' := hS
  refine h v' w' hS'.below0 (hS'.ok (i := 0) rfl) fun g hg => ?_
  rcases ((hS'.own 0 _ rfl).2 g (mem_row.2 hg)).2 with h1 | h1
  · exact h1
  · simp at h1
theorem W_cutM {α : Type} {tr : Tr α} {t e : TypeId} {v : Value} {xs zs : List α} {x : Operand} {ol oh : Option Operand} (a b : Int) (hlt : Nat.blt d fn.ntmps = true) (ht : P.underlying t = some (.slice e)) (hsz : P.cellsOf e = tr.size) (hi' : (P.info? e).isSome = true)
    (hx : ev l x = some v) (hl : match ol with | none => a = 0 | some y => ∃ kk, ev l y = some (.int kk a)) (hh : match oh with | none => b = xs.length | some y => ∃ kk, ev l y = some (.int kk b)) (hs : SlF tr F v xs) (hc : cut xs a b = some zs)
    (h : ∀ v', SlF tr F v' zs → W P fn k ops rest ((d, v') :: l) w) : W P fn k ops (⟨some d, .slice t x ol oh none, ty, pos, after, none⟩ :: rest) l w := by
  obtain ⟨h0, hab, hb, rfl⟩ := cut_some hc
  refine W_cutF a.toNat b.toNat hlt ht hsz hi' hx ?_ ?_ hs (by omega) (by omega) h
  · cases ol with
    | none => simp only at hl ⊢; omega
    | some y => obtain ⟨kk, hy⟩ := hl; exact ⟨kk, a, hy, h0, rfl⟩
  · cases oh with
    | none => simp only at hh ⊢; omega
    | some y => obtain ⟨kk, hy⟩ := hh; exact ⟨kk, b, hy, by omega, rfl⟩
/-- a piece of what lies somewhere -/
theorem W_cutS {α : Type} {tr : Tr α} {t e : TypeId} {v : Value} {xs zs : List α} {x : Operand} {ol oh : Option Operand} (a b : Int) (hlt : Nat.blt d fn.ntmps = true) (ht : P.underlying t = some (.slice e)) (hsz : P.cellsOf e = tr.size) (hi' : (P.info? e).isSome = true)
    (hx : ev l x = some v) (hl : match ol with | none => a = 0 | some y => ∃ kk, ev l y = some (.int kk a)) (hh : match oh with | none => b = xs.length | some y => ∃ kk, ev l y = some (.int kk b)) (hs : Src tr F w v xs) (hc : cut xs a b = some zs)
    (h : ∀ v', Src tr F w v' zs → W P fn k ops rest ((d, v') :: l) w) : W P fn k ops (⟨some d, .slice t x ol oh none, ty, pos, after, none⟩ :: rest) l w := by
  obtain ⟨h0, hab, hb, rfl⟩ := cut_some hc
  obtain ⟨css, hr, hsl⟩ := hs
  have ea : a = (a.toNat : Int) := by omega
  have eb : b = (b.toNat : Int) := by omega
  refine W_slice a.toNat b.toNat hlt ht hsz hi' hx ?_ ?_ hsl (by omega) (by rw [hr.1]; omega) fun v' h' => h v' ⟨_, ⟨by simp [hr.1], fun i dd y hi hy => ?_⟩, h'⟩
  · cases ol with
    | none => simp only at hl ⊢; omega
    | some y => obtain ⟨kk, hy⟩ := hl; exact ⟨kk, ea ▸ hy⟩
  · cases oh with
    | none => simp only at hh ⊢; rw [hr.1]; omega
    | some y => obtain ⟨kk, hy⟩ := hh; exact ⟨kk, eb ▸ hy⟩
  · rw [List.getElem?_drop, List.getElem?_take] at hi hy
    split at hi
    · rw [if_pos (by assumption)] at hy; exact hr.2 _ _ _ hi hy
    · cases hi
theorem stable_slf {α : Type} {t : Tr α} {F : Frz} {ys : List α} : Stable (fun v w => SlF t F v ys) := fun _ _ _ _ h => h
theorem W_bs0 {α : Type} {t : Tr α} {ts e : TypeId} {n s : Nat} {parts : List (Nat × Operand)} {z : Value} {vs : List Value} (cs : List (List Value)) (xs : List α) (hlt : Nat.blt d fn.ntmps = true) (ht : P.underlying ts = some (.slice e)) (hsz : P.cellsOf e = s) (hts : t.size = s) (hs1 : Nat.ble s 1000 = true) (hz : (P.info? e).bind (·.zero) = some z)
    (hp : evp l parts 0 = some vs) (hcs : (vs.map fun v => v.cells.toList) = cs) (hr : RelV t F cs xs) (hn : n = xs.length) (hle : Nat.ble xs.length 1000 = true) (hA : Agree F w.heap)
    (h : ∀ v w', Below w.heap.size w w' → Src t F w' v xs → W P fn k ops rest ((d, v) :: l) w') : W P fn k ops (⟨some d, .buildSlice ts n parts.toArray, ty, pos, after, none⟩ :: rest) l w :=
  W_bs cs xs hlt ht hsz hts hs1 hz hp hcs hr hn hle (St.entry hA) fun v w' hS => h v w' (St.below0 hS) (St.rowSrc (j := 0) hS rfl)
theorem u8_add (x y : UInt8) : IntKind.u8.wrap ((x.toNat : Int) + (y.toNat : Int)) = ((x + y).toNat : Int) := by
  rw [u8_wrap, UInt8.toNat_add]; omega
def toB8 (x : Int) : UInt8 := UInt8.ofNat (x % 256).toNat
theorem i8_of (x : Int) : IntKind.u8.wrap x = ((toB8 x).toNat : Int) := by
  rw [u8_wrap, toB8, UInt8.toNat_ofNat']; omega
theorem Src.now {α : Type} {t : Tr α} {v : Value} {ys : List α} (h : Src t F w v ys) (a : Agree F w.heap) : SlF t (now w) v ys := by
  obtain ⟨css, h1, h2, ao, c, e1, e2, e3, e4, e5⟩ := h
  exact ⟨css, h1.mono a, ao, c, e1, e2, e3, e4, fun ad had i d j u hi hj => (e5 ad had).1 i d j u hi hj⟩
theorem W_nilq {t e t2 : TypeId} {v : Value} {n : Nat} {x : Operand} (hlt : Nat.blt d fn.ntmps = true) (ht : P.underlying t = some (.slice e)) (hx : ev l x = some v) (hs : Ln v n)
    (h : ∀ b, (b = true → n = 0) → W P fn k ops rest ((d, .bool b) :: l) w) : W P fn k ops (⟨some d, .binOp .eql t x (.const (.slice none 0 0)) t2, ty, pos, after, none⟩ :: rest) l w := by
  obtain ⟨ao, c, rfl, h2, h3, h4⟩ := hs
  refine W_val rfl rfl hlt (v := .bool ao.isNone) (w' := w) (fun a ha => ?_) (h _ fun e => ?_)
  · have e1 : a.eval (.const (.slice none 0 0)) = .slice none 0 0 := rfl
    simp only [execOp, ha.eval hx, e1, eqGuard_at_slice, binOp, Sem.run_bind, Sem.run_pure, Result.andThen_ok, run_equal_slice_nil w t e ao n c ht]
  · cases ao with
    | none => have h0 := h4 rfl; omega
    | some ad => simp at e
theorem W_mk {α : Type} {t : Tr α} {ts e : TypeId} {s bytes : Nat} {z : Value} {x0 : α} {zs : List α} {x y : Operand} {kl kc : IntKind} {n : Int} (hlt : Nat.blt d fn.ntmps = true) (ht : P.underlying ts = some (.slice e)) (hrow : (P.info? e).map (fun i => (i.zero, i.size, i.bytes)) = some (some z, s, bytes)) (hts : t.size = s) (hby : Nat.ble bytes 131072 = true)
    (hx : ev l x = some (.int kl n)) (hy : ev l y = some (.int kc n)) (hS : St X w0 F0 F L w) (hz : t.rel F z.cells.toList x0) (hn : rep n x0 = some zs)
    (h : ∀ v' w', St X w0 F0 F (.row t e v' zs :: L) w' → W P fn k ops rest ((d, v') :: l) w') : W P fn k ops (⟨some d, .makeSlice ts x y, ty, pos, after, none⟩ :: rest) l w := by
  subst hts
  obtain ⟨h0, h1, rfl⟩ := rep_some hn
  obtain ⟨i, hi, hz0, hz1, hz2⟩ := info_parts hrow
  have hzs : z.cells.size = t.size := by have := t.len hz; simpa using this
  have hb : bytes ≤ 131072 := Nat.le_of_ble_eq_true hby
  obtain ⟨m, rfl⟩ := Int.eq_ofNat_of_zero_le h0
  have hbm : bytes * m ≤ 281474976710656 := Nat.le_trans (Nat.mul_le_mul hb (by omega : m ≤ 1073741824)) (by decide)
  have hbi : (bytes : Int) * (m : Int) ≤ 281474976710656 := by
    have h : ((bytes * m : Nat) : Int) ≤ 281474976710656 := by omega
    rwa [Int.natCast_mul] at h
  have hr := run_make (P := P) w ts e i z ht hi hz0 kl kc (m : Int) (m : Int) (by omega) (by omega) (by rw [hz2]; exact hbi) (by omega)
  simp only [Int.toNat_natCast] at hr ⊢
  have hcells : madeCells z.cells (m * i.size) = ((List.replicate m (⟨z.cells.toList, t.len hz⟩ : Cl t.size)).flatMap Subtype.val).toArray := by
    apply Array.ext'
    rw [← zeroCells_flat (enc := (Subtype.val : Cl t.size → List Value)) (fun x => x.2) (z := z.cells) rfl m]
    simp [madeCells, Builtin.zeroCells, hz1, hzs]
  rw [hcells] at hr
  have hnew := ow_of_block (heap_alloc_new w (.cells ((List.replicate m (⟨z.cells.toList, t.len hz⟩ : Cl t.size)).flatMap Subtype.val).toArray e)) (fun x : Cl t.size => x.2) rfl (by simp only [List.length_replicate, maxLen]; omega) (Nat.zero_le _)
  rw [List.length_replicate] at hnew
  generalize Obj.cells ((List.replicate m (⟨z.cells.toList, t.len hz⟩ : Cl t.size)).flatMap Subtype.val).toArray e = ob at hr hnew
  refine W_val rfl rfl hlt (v := .slice (some ⟨w.heap.size, 0, none⟩) m m) (w' := w.alloc ob) (fun a ha => by simp [execOp, ha.eval hx, ha.eval hy, hr]) (h _ _ (hS.fresh (alloc_below _ _) ⟨_, ⟨by simp, fun q dd y hq hy => ?_⟩, hnew⟩ ?_))
  · rw [List.eq_of_mem_replicate (List.mem_of_getElem? hq), List.eq_of_mem_replicate (List.mem_of_getElem? hy)]; exact hz
  · intro g hg; simp [Ob.blks, Value.ownBlock] at hg; omega
/-- a call of a function's value -/
theorem W_callv {f : FuncId} {xf : Operand} {xs : List Operand} {vs : List Value} {argTypes : Array TypeId} {R : Value → World → Prop} (hlt : Nat.blt d fn.ntmps = true) (hf : named P f = true) (hxf : ev l xf = some (.func (.func f) #[] #[])) (hx : evs l xs = some vs) (hc : Ret P f vs.toArray w R)
    (h : ∀ v w', R v w' → W P fn k ops rest ((d, v) :: l) w') : W P fn k ops (⟨some d, .call { callee := .value xf, args := xs.toArray, argTypes := argTypes }, ty, pos, after, none⟩ :: rest) l w :=
  W_ret rfl rfl hlt (fun a ha => by
    have e2 := evs_eval ha xs vs hx
    simp [execOp, resolve, ha.eval hxf, Deferred.ofValue, invoke, e2, run_callFunc_named hf]) hc h
theorem W_max {x y : Operand} {t1 t2 : TypeId} {kk : IntKind} {m n : Int} (hlt : Nat.blt d fn.ntmps = true) (hx : ev l x = some (.int kk m)) (hy : ev l y = some (.int kk n)) (h : W P fn k ops rest ((d, .int kk (if m < n then n else m)) :: l) w) :
    W P fn k ops (⟨some d, .call { callee := .builtin .max, args := #[x, y], argTypes := #[t1, t2] }, ty, pos, after, none⟩ :: rest) l w :=
  W_val rfl rfl hlt (fun a ha => by simp [execOp, resolve, invoke, builtin, Builtin.max_, Builtin.max2, ha.eval hx, ha.eval hy]) h
theorem W_min {x y : Operand} {t1 t2 : TypeId} {kk : IntKind} {m n : Int} (hlt : Nat.blt d fn.ntmps = true) (hx : ev l x = some (.int kk m)) (hy : ev l y = some (.int kk n)) (h : W P fn k ops rest ((d, .int kk (if n < m then n else m)) :: l) w) :
    W P fn k ops (⟨some d, .call { callee := .builtin .min, args := #[x, y], argTypes := #[t1, t2] }, ty, pos, after, none⟩ :: rest) l w :=
  W_val rfl rfl hlt (fun a ha => by simp [execOp, resolve, invoke, builtin, Builtin.min_, Builtin.min2, ha.eval hx, ha.eval hy]) h
theorem St.lendRow {α : Type} {t : Tr α} {e : TypeId} {v : Value} {xs : List α} (k : Nat) (h : St X w0 F0 F L w) (hk : L[k]? = some (.row t e v xs)) : St v.ownBlock.toList w F F [.row t e v xs] w := by
  have := h.lend [k] (by simp) v.ownBlock.toList (fun i o g hi hL hg => by
    have : i = k := by simpa using hi
    subst this
    rw [hk] at hL
    obtain rfl := Option.some.inj hL
    exact hg)
  simpa [hk] using this
theorem St.backRow {α : Type} {t : Tr α} {e : TypeId} {v : Value} {xs : List α} {w' : World} {F' : Frz} {Lr : List Ob} (k : Nat) (rs : List Nat) (h : St X w0 F0 F L w) (hk : L[k]? = some (.row t e v xs)) (hnd : rs.Nodup) (hkr : k ∉ rs) (hT : St v.ownBlock.toList w F F' Lr w') : St X w0 F0 F' (Lr ++ rs.filterMap fun i => L[i]?) w' :=
  h.callX [k] rs v.ownBlock.toList hnd (fun g hg => ⟨k, _, by simp, hk, hg⟩) (fun i hi hik => hkr (by
    have : i = k := by simpa using hik
    exact this ▸ hi)) hT
/-- flat rows as the rules for sorting have them -/
theorem ow_of_row {α : Type} {t : Tr α} {e : TypeId} {v : Value} {xs : List α} {enc : α → List Value} (he : ∀ x, (enc x).length = t.size) (hr : ∀ cs x, t.rel F cs x → cs = enc x) (h : Ob.ok F w (.row t e v xs)) : Ow w 0 e t.size enc v xs := by
  obtain ⟨css, h1, h2, h3, h4⟩ := h
  have hm : css.flatMap Subtype.val = xs.flatMap enc := by
    have : css.map Subtype.val = xs.map enc := by
      apply List.ext_getElem (by simp [h1.1])
      intro i a b
      simp only [List.getElem_map]
      exact hr _ _ (h1.2 i _ _ (List.getElem?_eq_getElem (by simpa using a)) (List.getElem?_eq_getElem (by simpa using b)))
    rw [List.flatMap_def, List.flatMap_def, this]
  rw [hm, h1.1] at h3 h4
  exact ⟨he, h3, h4⟩
theorem row_of_ow {α : Type} {t : Tr α} {e : TypeId} {v : Value} {xs : List α} {enc : α → List Value} (he : ∀ x, (enc x).length = t.size) (hr : ∀ x, t.rel F (enc x) x) (h : Ow w 0 e t.size enc v xs) : Ob.ok F w (.row t e v xs) := by
  obtain ⟨_, h3, h4⟩ := h
  refine ⟨xs.map fun x => ⟨enc x, he x⟩, ⟨by simp, fun i d x hd hx => ?_⟩, fun d => d.2, ?_⟩
  · simp [hx] at hd; subst hd; exact hr x
  · have hm : (xs.map fun x => (⟨enc x, he x⟩ : Cl t.size)).flatMap Subtype.val = xs.flatMap enc := by
      rw [List.flatMap_def, List.flatMap_def, List.map_map]; rfl
    rw [hm, List.length_map]
    exact ⟨h3, h4⟩
/-- v' is the piece of v from a on, of n elements -/
def Pce (v v' : Value) (s a n : Nat) : Prop := (v = .slice none 0 0 ∧ v' = .slice none 0 0 ∧ n = 0 ∧ a = 0) ∨ ∃ ad m c, v = .slice (some ad) m c ∧ v' = .slice (some (if c = a then ad else ad.add (a * s))) n (c - a) ∧ a + n ≤ c ∧ c ≤ maxLen
theorem Pce.ln {v v' : Value} {s a n : Nat} (h : Pce v v' s a n) : Ln v' n := by
  rcases h with ⟨_, rfl, rfl, _⟩ | ⟨ad, m, c, _, rfl, h1, h2⟩
  · exact ⟨none, 0, rfl, by simp [maxLen], Nat.le_refl _, fun _ => rfl⟩
  · exact ⟨_, _, rfl, by omega, by omega, fun e => by cases e⟩
theorem El.piece {hh : Array Obj} {v v' : Value} {s a n i : Nat} {cs : List Value} (hE : El hh v s (a + i) cs) (hp : Pce v v' s a n) (hi : i < n) : El hh v' s i cs := by
  obtain ⟨h0, ad, m, c, h1, h2, h3⟩ := hE
  rcases hp with ⟨hv, _, _⟩ | ⟨ad', m', c', hv, rfl, h4, h5⟩
  · omega
  · rw [h1] at hv
    injection hv with e1 e2 e3
    obtain rfl := Option.some.inj e1
    refine ⟨h0, _, n, _, rfl, hi, fun q u hq => ?_⟩
    rw [if_neg (by omega), addr_add_add, show a * s + (i * s + q) = (a + i) * s + q from by rw [Nat.add_mul]; omega]
    exact h3 q u hq
theorem W_cutR {α : Type} {tr : Tr α} {t e eo : TypeId} {v : Value} {xs zs : List α} {x : Operand} {ol oh : Option Operand} (j : Nat) (a b : Int) (hlt : Nat.blt d fn.ntmps = true) (ht : P.underlying t = some (.slice e)) (hsz : P.cellsOf e = tr.size) (hi' : (P.info? e).isSome = true)
    (hx : ev l x = some v) (hl : match ol with | none => a = 0 | some y => ∃ kk, ev l y = some (.int kk a)) (hh : match oh with | none => b = xs.length | some y => ∃ kk, ev l y = some (.int kk b)) (hS : St X w0 F0 F L w) (hj : L[j]? = some (.row tr eo v xs)) (hc : cut xs a b = some zs)
    (h : ∀ v', Src tr F w v' zs → Pce v v' tr.size a.toNat (b.toNat - a.toNat) → W P fn k ops rest ((d, v') :: l) w) : W P fn k ops (⟨some d, .slice t x ol oh none, ty, pos, after, none⟩ :: rest) l w := by
  obtain ⟨h0, hab, hb, rfl⟩ := cut_some hc
  obtain ⟨css, hr, hO⟩ := hS.ok hj
  have hsl := hO.sl
  obtain ⟨na, rfl⟩ := Int.eq_ofNat_of_zero_le h0
  obtain ⟨nb, rfl⟩ := Int.eq_ofNat_of_zero_le (Int.le_trans h0 hab)
  simp only [Int.toNat_natCast] at h ⊢
  obtain ⟨ao, c, rfl, hcc, hp⟩ := sl_piece hsl (a := na) (b := nb) (by omega) (by rw [hr.1]; omega)
  obtain ⟨i, hinfo⟩ := Option.isSome_iff_exists.1 hi'
  have hsz' : i.size = tr.size := by simpa [Program.cellsOf, hinfo] using hsz
  have hbc : nb ≤ c := Nat.le_trans (by rw [hr.1]; omega) hcc
  obtain ⟨_, ao', c', e1, e2, e3, e4, _⟩ := hsl
  injection e1 with e1 e1' e1''
  subst e1; subst e1''
  have hv' := hp c (Nat.le_refl _) hbc
  have hab' : na ≤ nb := by omega
  refine W_val rfl rfl hlt (v := .slice (if c = na then ao else ao.map (·.add (na * tr.size))) (nb - na) (c - na)) (w' := w) (fun aa ha => ?_) (h _ ⟨_, ⟨by simp [hr.1], fun i dd y hi hy => ?_⟩, hv'.widen (Nat.zero_le _) (Nat.le_refl _)⟩ ?_)
  · cases ol with
    | none =>
      simp only at hl
      have hl' : na = 0 := by omega
      subst hl'
      cases oh with
      | none =>
        simp only at hh
        have hh' : nb = css.length := by rw [hr.1]; omega
        subst hh'
        simp [execOp, ha.eval hx, Instr.sliceAt, Instr.slice, run_underlying ht, Instr.sliceBounds, sizeOf, typeInfo, hinfo]
      | some y =>
        obtain ⟨kk, hy⟩ := hh
        simp [execOp, ha.eval hx, ha.eval hy, Instr.sliceAt, Instr.slice, run_underlying ht, Instr.sliceBounds, Instr.sliceBound, asIntOf, sizeOf, typeInfo, hinfo, hbc]
    | some y1 =>
      obtain ⟨kk1, hy1⟩ := hl
      cases oh with
      | none =>
        simp only at hh
        have hh' : nb = css.length := by rw [hr.1]; omega
        subst hh'
        simp [execOp, ha.eval hx, ha.eval hy1, Instr.sliceAt, Instr.slice, run_underlying ht, Instr.sliceBounds, Instr.sliceBound, asIntOf, sizeOf, typeInfo, hinfo, hsz', hab']
      | some y =>
        obtain ⟨kk, hy⟩ := hh
        simp [execOp, ha.eval hx, ha.eval hy1, ha.eval hy, Instr.sliceAt, Instr.slice, run_underlying ht, Instr.sliceBounds, Instr.sliceBound, asIntOf, sizeOf, typeInfo, hinfo, hsz', hbc, hab']
  · rw [List.getElem?_drop, List.getElem?_take] at hi hy
    split at hi
    · rw [if_pos (by assumption)] at hy; exact hr.2 _ _ _ hi hy
    · cases hi
  · cases ao with
    | none =>
      have hc0 : c = 0 := e4 rfl
      left
      refine ⟨?_, ?_, by omega, by omega⟩
      · rw [hc0, show css.length = 0 by omega]
      · rw [if_pos (by omega), hc0, show nb - na = 0 by omega, show 0 - na = 0 by omega]
    | some ad =>
      right
      refine ⟨ad, _, c, rfl, ?_, by omega, e3⟩
      split <;> simp_all
/-- a row becomes its own beginning -/
theorem St.shrink {α : Type} {t : Tr α} {e : TypeId} {v v' : Value} {xs zs : List α} {b : Int} (k : Nat) (h : St X w0 F0 F L w) (hk : L[k]? = some (.row t e v xs)) (hp : Pce v v' t.size (0 : Int).toNat (b.toNat - (0 : Int).toNat)) (hc : cut xs 0 b = some zs) : St X w0 F0 F (L.set k (.row t e v' zs)) w := by
  obtain ⟨h0, hab, hb, rfl⟩ := cut_some hc
  obtain ⟨css, hr, he, hl, hO⟩ := h.ok hk
  have hgb : Gb w w v.ownBlock := ⟨rfl, rfl, rfl, Nat.le_refl _, fun _ _ _ => rfl, Nat.le_refl _⟩
  have hrel : RelL t F (css.take b.toNat) ((xs.take b.toNat).drop (0 : Int).toNat) := ⟨by simp [hr.1], fun i dd y hi hy => by
    simp only [Int.toNat_zero, List.drop_zero] at hy
    rw [List.getElem?_take] at hi hy
    split at hi
    · rw [if_pos (by assumption)] at hy; exact hr.2 _ _ _ hi hy
    · cases hi⟩
  rcases hp with ⟨rfl, rfl, h1, _⟩ | ⟨ad, m, c, rfl, rfl, h1, h2⟩
  · refine h.put _ hk hgb ⟨[], ?_, Ow.nil _ _ _ _ _ (fun d => d.2)⟩ (.inl rfl)
    have hb0 : b.toNat = 0 := by simpa using h1
    rw [hb0] at hrel
    simpa [hb0] using hrel
  · rcases hO with ⟨hO, _⟩ | ⟨g, cap, cur, hv, hbg, hg, hn, hm, hcs, htk⟩
    · cases hO
    · injection hv with e1 e2 e3
      obtain rfl := Option.some.inj e1
      subst e3
      have hadr : (if c = (0 : Int).toNat then (⟨g, 0, none⟩ : Addr) else (⟨g, 0, none⟩ : Addr).add ((0 : Int).toNat * t.size)) = ⟨g, 0, none⟩ := by
        split
        · rfl
        · simp [Addr.add]
      rw [hadr]
      simp only [Int.toNat_zero, Nat.sub_zero, Nat.zero_add] at h1 ⊢
      have hbl : b.toNat ≤ css.length := by rw [hr.1]; omega
      have hlen : (css.take b.toNat).length = b.toNat := by simp; omega
      refine h.put _ hk hgb ⟨css.take b.toNat, by simpa using hrel, fun d => d.2, by rw [flat_length (fun d : Cl t.size => d.2)], .inr ⟨g, c, cur, by rw [hlen], Nat.zero_le _, hg, by rw [hlen]; omega, hm, hcs, ?_⟩⟩ (.inl rfl)
      rw [hlen, ← flat_take (fun d : Cl t.size => d.2), ← htk, List.take_take, Nat.min_eq_left (Nat.mul_le_mul_right _ hbl)]
/-- an element of a piece -/
def ixp {α : Type} (l : List α) (a n : Nat) (i : Int) : Option α := match i with | .ofNat k => if k < n then l[a + k]? else none | .negSucc _ => none
theorem ixp_some {α : Type} {l : List α} {a n : Nat} {i : Int} {x : α} (h : ixp l a n i = some x) : 0 ≤ i ∧ i.toNat < n ∧ l[a + i.toNat]? = some x := by
  cases i with
  | ofNat k =>
    simp only [ixp] at h
    split at h
    · exact ⟨Int.natCast_nonneg k, by assumption, h⟩
    · cases h
  | negSucc k => cases h
theorem Src.ofPiece {α : Type} {t : Tr α} {e : TypeId} {v v' : Value} {xs zs : List α} {a b : Int} {k : Nat} (h : St X w0 F0 F L w) (hk : L[k]? = some (.row t e v xs)) (hp : Pce v v' t.size a.toNat (b.toNat - a.toNat)) (hc : cut xs a b = some zs) : Src t F w v' zs := by
  obtain ⟨h0, hab, hb, rfl⟩ := cut_some hc
  obtain ⟨css, hr, hO⟩ := h.ok hk
  have hsl := hO.sl
  obtain ⟨ao, c, rfl, hcc, hpp⟩ := sl_piece hsl (a := a.toNat) (b := b.toNat) (by omega) (by rw [hr.1]; omega)
  have hrel : RelL t F ((css.take b.toNat).drop a.toNat) ((xs.take b.toNat).drop a.toNat) := ⟨by simp [hr.1], fun i dd y hi hy => by
    rw [List.getElem?_drop, List.getElem?_take] at hi hy
    split at hi
    · rw [if_pos (by assumption)] at hy; exact hr.2 _ _ _ hi hy
    · cases hi⟩
  have hv' := (hpp c (Nat.le_refl _) (Nat.le_trans (by rw [hr.1]; omega) hcc)).widen (Nat.zero_le _) (Nat.le_refl w.heap.size)
  refine ⟨_, hrel, ?_⟩
  rcases hp with ⟨hv, rfl, h1, h2⟩ | ⟨ad, m, c', hv, rfl, h1, h2⟩
  · injection hv with e1 e2 e3
    subst e1; subst e3
    have hz : (css.take b.toNat).drop a.toNat = [] := List.eq_nil_of_length_eq_zero (by simp [hr.1]; omega)
    rw [hz]
    exact sl_nil _ _ _ _ _ (fun d => d.2)
  · injection hv with e1 e2 e3
    subst e1; subst e3
    have : (if c = a.toNat then (some ad) else (some ad).map fun x : Addr => x.add (a.toNat * t.size)) = some (if c = a.toNat then ad else ad.add (a.toNat * t.size)) := by split <;> rfl
    rw [this] at hv'
    exact hv'
def clr {α : Type} (l : List α) (a n : Nat) (z : α) : Option (List α) := if a + n = l.length then some (l.take a ++ List.replicate n z) else none
theorem clr_some {α : Type} {l r : List α} {a n : Nat} {z : α} (h : clr l a n z = some r) : a + n = l.length ∧ r = l.take a ++ List.replicate n z := by
  unfold clr at h
  split at h
  · rename_i hc; exact ⟨hc, (Option.some.inj h).symm⟩
  · cases h
/-- a piece of an own row is cleared -/
theorem W_clr {α : Type} {tr : Tr α} {t e : TypeId} {v v' : Value} {xs zs : List α} {x : Operand} {z : Value} {x0 : α} {a n : Nat} (j : Nat) (ht : P.underlying t = some (.slice e)) (hz : (P.info? e).bind (·.zero) = some z) (hz0 : tr.rel F z.cells.toList x0)
    (hx : ev l x = some v') (hS : St X w0 F0 F L w) (hj : L[j]? = some (.row tr e v xs)) (hp : Pce v v' tr.size a n) (hc : clr xs a n x0 = some zs)
    (h : ∀ w', St X w0 F0 F (L.set j (.row tr e v zs)) w' → W P fn k ops rest l w') :
    W P fn k ops (⟨none, .call { callee := .builtin .clear, args := #[x], argTypes := #[t] }, ty, pos, after, none⟩ :: rest) l w := by
  obtain ⟨hn, rfl⟩ := clr_some hc
  obtain ⟨css, hr, hO⟩ := hS.ok hj
  have hzl : z.cells.toList.length = tr.size := tr.len hz0
  obtain ⟨i, hinf, hzi⟩ := Option.bind_eq_some_iff.1 hz
  have hrel : RelL tr F (css.take a ++ List.replicate n (⟨z.cells.toList, hzl⟩ : Cl tr.size)) (xs.take a ++ List.replicate n x0) := ⟨by simp [hr.1], fun q dd y hq hy => by
    by_cases hqa : q < a
    · have hl1 : q < (css.take a).length := by simp [hr.1]; omega
      have hl2 : q < (xs.take a).length := by simp; omega
      rw [List.getElem?_append_left hl1, List.getElem?_take_of_lt hqa] at hq
      rw [List.getElem?_append_left hl2, List.getElem?_take_of_lt hqa] at hy
      exact hr.2 _ _ _ hq hy
    · have hl1 : (css.take a).length = a := by simp [hr.1]; omega
      have hl2 : (xs.take a).length = a := by simp; omega
      rw [List.getElem?_append_right (by omega), hl1] at hq
      rw [List.getElem?_append_right (by omega), hl2] at hy
      rw [List.eq_of_mem_replicate (List.mem_of_getElem? hq), List.eq_of_mem_replicate (List.mem_of_getElem? hy)]
      exact hz0⟩
  rcases hp with ⟨hv, rfl, h1, h2⟩ | ⟨ad, m, c, hv, rfl, h1, h2⟩
  · subst h1; subst h2
    have hx0 : xs = [] := List.eq_nil_of_length_eq_zero (by omega)
    subst hx0
    refine W_noval (v := .tuple #[]) (w' := w) rfl rfl (fun aa ha => ?_) (h w (hS.put _ hj ⟨rfl, rfl, rfl, Nat.le_refl _, fun _ _ _ => rfl, Nat.le_refl _⟩ ⟨css, by simpa using hr, by simpa using hO⟩ (.inl rfl)))
    simp [execOp, resolve, invoke, builtin, ha.eval hx, Builtin.clear_, run_underlying ht]
  · have hpc : Piece tr.size v (.slice (some (if c = a then ad else ad.add (a * tr.size))) n (c - a)) a n := ⟨ad, m, c, hv, rfl, h1⟩
    refine W_clear_pc (⟨z.cells.toList, hzl⟩ : Cl tr.size) ht hz rfl (fun u hu => tr.one hz0 u hu) hx hpc hO (by rw [hr.1]; exact hn) fun w' g hg hbg hU hO' => h w' ?_
    exact hS.put _ hj (b := v.ownBlock) (by rw [hg]; exact upd_gb hU) ⟨_, hrel, hO'⟩ (.inl rfl)
/-- a guard that was not come to -/
def yu (ops : Array Oper) (l : Env) (j : Nat) : Bool :=
  match ops[j]? with
  | some o => match o.dst with
    | some d => match look l d with
      | some (.bool _) => false
      | some _ => true
      | none => false
    | none => false
  | none => false
theorem yielded_un {a : Act} {n j : Nat} (ha : Slots l n a) (h : yu ops l j = true) : yielded ops a.tmps j = none := by
  unfold yu at h
  cases ho : ops[j]? with
  | none => simp [ho] at h
  | some o =>
    simp only [ho] at h
    cases hd : o.dst with
    | none => simp [hd] at h
    | some d' =>
      simp only [hd] at h
      cases hl : look l d' with
      | none => simp [hl] at h
      | some v =>
        simp only [hl] at h
        have h1 := ha.at_ d' _ hl
        simp only [yielded, ho, hd, Option.bind_some]
        by_cases hs : d' < a.tmps.size
        · simp only [Array.getD_eq_getD_getElem?] at h1
          simp [hs] at h1 ⊢
          rw [h1]
          cases v <;> simp_all
        · simp [Array.getElem?_eq_none (Nat.le_of_not_lt hs)]
theorem W_guard_un {o : Oper} {d j : Nat} {want : Bool} (hg : o.guard = some (j, want)) (hy : yu ops l j = true) (hd : o.dst = some d) (hlt : Nat.blt d fn.ntmps = true) (h : W P fn k ops rest ((d, undef) :: l) w) : W P fn k ops (o :: rest) l w := by
  intro a ha
  refine wpList_step fun K hK => ?_
  have hw : Region.wanted o (yielded ops a.tmps) = false := by
    simp only [Region.wanted, hg, yielded_un ha hy]; rfl
  rw [hw, hd]
  exact hK _ _ (h _ (ha.put undef hlt))
theorem W_guard_un_unit {o : Oper} {j : Nat} {want : Bool} (hg : o.guard = some (j, want)) (hy : yu ops l j = true) (hd : o.dst = none) (h : W P fn k ops rest l w) : W P fn k ops (o :: rest) l w := by
  intro a ha
  refine wpList_step fun K hK => ?_
  have hw : Region.wanted o (yielded ops a.tmps) = false := by
    simp only [Region.wanted, hg, yielded_un ha hy]; rfl
  rw [hw, hd]
  exact hK _ _ (h _ ha)
theorem stable_ex {p : Value → Frz → Prop} {F : Frz} {w : World} : Stable (fun v wr => ∃ F', p v F' ∧ St [] w F F' [] wr) := by
  rintro v w1 w2 hb ⟨F', h1, h2⟩
  exact ⟨F', h1, h2.below hb⟩
/-- what two calls froze, beside each other -/
theorem St.merge {Fa Fb : Frz} {w' : World} (ha : St [] w F Fa [] w') (hb : St [] w F Fb [] w') : ∃ Fc, Fa.le Fc ∧ Fb.le Fc ∧ St [] w F Fc [] w' := by
  have h1 : ∀ a u, (Fa a).or (Fb a) = some u → Fa a = some u ∨ Fb a = some u := fun a u e => by
    cases h : Fa a with
    | none => rw [h] at e; exact .inr (by simpa using e)
    | some u' => rw [h] at e; exact .inl (by simpa using e)
  have h2 : Fa.le (fun a => (Fa a).or (Fb a)) := fun a u e => by simp [e]
  have h3 : Fb.le (fun a => (Fa a).or (Fb a)) := fun a u e => by
    cases h : Fa a with
    | none => simp [h, e]
    | some u' => have e1 := ha.agree a u' h; rw [hb.agree a u e] at e1; simp [h, e1]
  refine ⟨fun a => (Fa a).or (Fb a), h2, h3, ha.os, ha.tape, ha.output, ha.drawn, ha.size, ha.keep, fun a u e => ?_, ha.ext.trans h2, fun a u e => ?_, fun i o hi => by simp at hi, fun i j o o' g hi => by simp at hi⟩
  · rcases h1 a u e with h | h
    · exact ha.agree a u h
    · exact hb.agree a u h
  · rcases h1 a u e with h | h
    · exact ha.new a u h
    · exact hb.new a u h
/-- relations that look at no frozen cell -/
def Tr.Flat {α : Type} (t : Tr α) : Prop := ∀ {F G : Frz} {cs : List Value} {x : α}, t.rel F cs x → t.rel G cs x
def Flats : List Ob → Prop
  | [] => True
  | .box _ _ _ :: l => Flats l
  | .row t _ _ _ :: l => t.Flat ∧ Flats l
  | .deep _ _ _ _ :: l => False
theorem Flats.ok {Lr : List Ob} (h : Flats Lr) {o : Ob} (ho : o ∈ Lr) {F G : Frz} {w : World} (hk : o.ok F w) : o.ok G w := by
  induction Lr with
  | nil => simp at ho
  | cons p Lr ih =>
    cases p with
    | box g e cs =>
      rcases List.mem_cons.1 ho with rfl | ho
      · exact hk
      · exact ih h ho
    | row t e v xs =>
      rcases List.mem_cons.1 ho with rfl | ho
      · obtain ⟨css, h1, h2⟩ := hk
        exact ⟨css, ⟨h1.1, fun i d x hi hx => h.1 (h1.2 i d x hi hx)⟩, h2⟩
      · exact ih h.2 ho
    | deep t bs cs x => exact h.elim
/-- a call whose results are new rows of flat elements: what was lent comes back -/
theorem St.lentFlat {Lr : List Ob} {G G' : Frz} {w' : World} (h : St X w0 F0 F L w) (k : St [] w G G' Lr w') (hf : Flats Lr) : St X w0 F0 F (Lr ++ L) w' := by
  have hb := k.below0
  have hag : Agree F w'.heap := h.agree.below hb
  have e : St [] w F F Lr w' := ⟨k.os, k.tape, k.output, k.drawn, k.size, fun b hb' hx => k.keep b hb' hx, hag, Frz.le.refl _, fun _ _ q => .inl q, fun i o hi => by
    obtain ⟨h1, h2⟩ := k.own i o hi
    refine ⟨hf.ok (List.mem_of_getElem? hi) h1, fun g hg => ⟨fun a ha => ?_, (h2 g hg).2⟩⟩
    cases hF : F a with
    | none => rfl
    | some u =>
      have h3 := hc_lt (h.agree a u hF)
      rcases (h2 g hg).2 with h4 | h4
      · omega
      · simp at h4, k.apart⟩
  exact h.call e
theorem St.from {w' : World} (h : Agree F w.heap) (hB : Below w.heap.size w w') : St [] w F F [] w' := (St.entry h).below hB
theorem W_eqv {t : Nat} {v v' : Value} (hl : look l t = some v) (e : v = v') (h : W P fn k ops rest ((t, v') :: l) w) : W P fn k ops rest l w := by
  subst e
  intro a ha
  refine h a ⟨ha.defers, ha.size, fun t' u hu => ?_⟩
  simp only [look] at hu
  cases hb : Nat.beq t t' with
  | true =>
    rw [hb] at hu
    have e' : t = t' := Nat.eq_of_beq_eq_true hb
    subst e'
    have e2 : v = u := by simpa using hu
    subst e2
    exact ha.at_ t _ hl
  | false => rw [hb] at hu; exact ha.at_ t' u hu
/-- nothing is appended -/
theorem W_appN {ts e : TypeId} {s bytes n : Nat} {z v : Value} {sx xx : Operand} (hlt : Nat.blt d fn.ntmps = true) (ht : P.underlying ts = some (.slice e)) (hrow : (P.info? e).map (fun i => (i.zero, i.size, i.bytes)) = some (some z, s, bytes))
    (hs : ev l sx = some v) (hxx : ev l xx = some (.slice none 0 0)) (hl : Ln v n) (h : W P fn k ops rest ((d, v) :: l) w) :
    W P fn k ops (⟨some d, .call { callee := .builtin .append, args := #[sx, xx], argTypes := #[ts, ts] }, ty, pos, after, none⟩ :: rest) l w := by
  obtain ⟨i, hi, _, _, _⟩ := info_parts hrow
  obtain ⟨ao, c, rfl, _, hle, _⟩ := hl
  have hr := run_append_nothing w ts ts ty e i ht hi ao n c hle (.slice none 0 0) (Go.Src.ofNil w ht 0)
  exact W_val rfl rfl hlt (fun a ha => by simp [execOp, resolve, invoke, builtin, ha.eval hs, ha.eval hxx, hr]) h
end
end Go.Wk
