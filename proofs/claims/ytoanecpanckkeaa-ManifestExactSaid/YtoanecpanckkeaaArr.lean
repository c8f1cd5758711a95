/- Arrays compared; small slices of slices; what a walk knows of a bool. -/
import Derived.Test.YtoanecpanckkeaaRow
namespace Go.Wk
open Go.RowKit

theorem rw_of0 (lo hi : Nat) (h : Array Obj) : Rw lo hi h (.slice none 0 0) [] [] := rw_nil lo hi h
theorem rw_of1 {lo hi : Nat} {h : Array Obj} {v u1 : Value} {b1 : List UInt8} (ho : Sl lo hi h 1 encV v [u1]) (h1 : Sl lo hi h 1 encB u1 b1) : Rw lo hi h v [u1] [b1] :=
  ⟨ho, rfl, fun i u b a1 a2 => by
    match i with
    | 0 => simp at a1 a2; subst a1; subst a2; exact h1
    | i + 1 => simp at a1⟩
theorem rw_of2 {lo hi : Nat} {h : Array Obj} {v u1 u2 : Value} {b1 b2 : List UInt8} (ho : Sl lo hi h 1 encV v [u1, u2]) (h1 : Sl lo hi h 1 encB u1 b1) (h2 : Sl lo hi h 1 encB u2 b2) : Rw lo hi h v [u1, u2] [b1, b2] :=
  ⟨ho, rfl, fun i u b a1 a2 => by
    match i with
    | 0 => simp at a1 a2; subst a1; subst a2; exact h1
    | 1 => simp at a1 a2; subst a1; subst a2; exact h2
    | i + 2 => simp at a1⟩

theorem Led.updx {B g : Nat} {w0 w w' : World} (h : Led B w0 w []) (hu : Upd w w' g) (hg : B ≤ g) : Led B w0 w' [] :=
  ⟨by rw [hu.size]; exact h.le, hu.below h.below hg, fun i x hx => by simp at hx, fun i j x y hx _ _ => by simp at hx⟩

theorem Ow.base_le {α : Type} {w : World} {base b2 : Nat} {e : TypeId} {s : Nat} {enc : α → List Value} {v : Value} {ds : List α} (h : Ow w base e s enc v ds) (hb : b2 ≤ base) : Ow w b2 e s enc v ds := by
  refine ⟨h.1, h.2.1, ?_⟩
  rcases h.2.2 with h2 | ⟨g, cap, cur, hv, hbg, r⟩
  · exact .inl h2
  · exact .inr ⟨g, cap, cur, hv, Nat.le_trans hb hbg, r⟩
theorem stable_ow {α : Type} {base : Nat} {e : TypeId} {s : Nat} {enc : α → List Value} {ds : List α} : Stable (fun v w => Ow w base e s enc v ds) := fun _ _ _ hb h => h.call hb
theorem stable_rwx {bss : List (List UInt8)} : Stable (fun v w => ∃ us, Rw 0 w.heap.size w.heap v us bss) := fun v w1 w2 hb h => by
  obtain ⟨us, h⟩ := h
  exact ⟨us, stable_rw v w1 w2 hb h⟩
theorem Led.grown2 {β : Type} {B base : Nat} {w0 w w' : World} {x y : Own} {s2 : Nat} {enc2 : β → List Value} {u : Value} {es : List β} {e : TypeId} (h : Led B w0 w [x, y]) (hG : Gb w w' u.ownBlock) (ho : Ow w base e s2 enc2 u es) (hb : B ≤ base) (hx : x.1 < base) (hy : y.1 < base) : Led B w0 w' [x, y] :=
  h.grown hG ho hb fun i z hz => by
    match i with
    | 0 => simp at hz; subst hz; exact hx
    | 1 => simp at hz; subst hz; exact hy
    | i + 2 => simp at hz
theorem flat_cB (xs : List UInt8) : xs.flatMap encB = xs.map cB := by
  induction xs with
  | nil => rfl
  | cons x xs ih => simp [encB, cB, ih]
theorem flat_le {c : Nat} : ∀ (bss : List (List UInt8)), (∀ x ∈ bss, x.length ≤ c) → bss.flatten.length ≤ c * bss.length := by
  intro bss
  induction bss with
  | nil => intro _; simp
  | cons x xs ih =>
    intro h
    have h1 := h x (by simp)
    have h2 := ih fun y hy => h y (by simp [hy])
    simp only [List.flatten_cons, List.length_append, List.length_cons, Nat.mul_add, Nat.mul_one]
    omega

section
variable {P : Program} {fn : Func} {k : Kont} {l : Env} {w : World} {ops : Array Oper} {rest : List Oper} {d : Nat} {ty : TypeId} {pos : String} {after : Array Edge}

theorem W_known {t : Nat} {b : Bool} (c : Bool) (hl : look l t = some (.bool b)) (hb : b = c) (h : W P fn k ops rest ((t, .bool c) :: l) w) : W P fn k ops rest l w := by
  subst hb
  exact W_bool hl (fun e => by subst e; exact h) (fun e => by subst e; exact h)

theorem run_eqItems_u8 {e : TypeId} {d : Nat} (he : P.underlying e = some (.int .u8)) (xs ys : List UInt8) : ∀ (is : List Nat), (∀ i ∈ is, i < xs.length ∧ i < ys.length) →
    (Op.eqItems (d + 1) e 1 (xs.map cB).toArray (ys.map cB).toArray is).run P w = .ok (is.all fun i => xs.getD i 0 == ys.getD i 0) w := by
  intro is
  induction is with
  | nil => intro _; simp [Op.eqItems]
  | cons i is ih =>
    intro h
    obtain ⟨h1, h2⟩ := h i (by simp)
    have hagg : (isAgg e).run P w = .ok false w := by simp [isAgg, run_underlying he]
    have p1 : (part e (xs.map cB).toArray (i * 1)).run P w = .ok (cB (xs.getD i 0)) w := by
      simp [part, hagg, h1]
    have p2 : (part e (ys.map cB).toArray (i * 1)).run P w = .ok (cB (ys.getD i 0)) w := by
      simp [part, hagg, h2]
    have p3 : (Op.equalIn (d + 1) e (cB (xs.getD i 0)) (cB (ys.getD i 0))).run P w = .ok (((xs.getD i 0).toNat : Int) == ((ys.getD i 0).toNat : Int)) w := run_equalIn_int w d e .u8 .u8 _ _ he
    have hb : (((xs.getD i 0).toNat : Int) == ((ys.getD i 0).toNat : Int)) = (xs.getD i 0 == ys.getD i 0) := by
      rw [Bool.eq_iff_iff]
      simp only [beq_iff_eq]
      constructor
      · intro h; exact UInt8.toNat.inj (by omega)
      · intro h; rw [h]
    simp only [Op.eqItems, Sem.run_bind, p1, p2, p3, Result.andThen_ok, hb]
    cases hc : (xs.getD i 0 == ys.getD i 0) with
    | false => simp only [Bool.not_false, if_true, Sem.run_pure, List.all_cons, hc, Bool.false_and]
    | true =>
      simp only [Bool.not_true, Bool.false_eq_true, if_false, List.all_cons, hc, Bool.true_and]
      exact ih fun j hj => h j (by simp [hj])

theorem all_eq (xs ys : List UInt8) (n : Nat) (hx : xs.length = n) (hy : ys.length = n) : ((List.range n).all fun i => xs.getD i 0 == ys.getD i 0) = decide (xs = ys) := by
  rw [Bool.eq_iff_iff, List.all_eq_true, decide_eq_true_eq]
  constructor
  · intro h
    apply List.ext_getElem
    · omega
    · intro i h1 h2
      have := h i (List.mem_range.2 (by omega))
      simpa [h1, h2] using this
  · intro h i _; rw [h]; simp

theorem run_eql_u8s {t e : TypeId} {n : Nat} (ht : P.underlying t = some (.array n e)) (he : P.underlying e = some (.int .u8)) (hs : P.cellsOf e = 1) (hse : (P.info? e).isSome = true) (xs ys : List UInt8) (hx : xs.length = n) (hy : ys.length = n) :
    (Op.equal t (.agg (xs.map cB).toArray) (.agg (ys.map cB).toArray)).run P w = .ok (decide (xs = ys)) w := by
  obtain ⟨i, hi⟩ := Option.isSome_iff_exists.1 hse
  unfold Op.equal Op.maxDepth
  rw [run_equalIn_array w 9999 _ _ ht hi, hs, run_eqItems_u8 he xs ys _ (fun i hi => by have := List.mem_range.1 hi; omega), all_eq xs ys n hx hy]

theorem W_eql_u8s {t t2 e : TypeId} {n : Nat} {x y : Operand} {xs ys : List UInt8} (hlt : Nat.blt d fn.ntmps = true) (ht : P.underlying t = some (.array n e)) (he : P.underlying e = some (.int .u8)) (hs : P.cellsOf e = 1) (hse : (P.info? e).isSome = true) (hgt : P.eqGuardType P.depth t = false)
    (hx : ev l x = some (.agg (xs.map cB).toArray)) (hy : ev l y = some (.agg (ys.map cB).toArray)) (hxl : xs.length = n) (hyl : ys.length = n) (h : W P fn k ops rest ((d, .bool (decide (xs = ys))) :: l) w) :
    W P fn k ops (⟨some d, .binOp .eql t x y t2, ty, pos, after, none⟩ :: rest) l w :=
  W_val rfl rfl hlt (fun a ha => by simp [execOp, ha.eval hx, ha.eval hy, run_eqGuard_agg w .eql t x y _ _ hgt, binOp, run_eql_u8s ht he hs hse xs ys hxl hyl]) h
theorem W_neq_u8s {t t2 e : TypeId} {n : Nat} {x y : Operand} {xs ys : List UInt8} (hlt : Nat.blt d fn.ntmps = true) (ht : P.underlying t = some (.array n e)) (he : P.underlying e = some (.int .u8)) (hs : P.cellsOf e = 1) (hse : (P.info? e).isSome = true) (hgt : P.eqGuardType P.depth t = false)
    (hx : ev l x = some (.agg (xs.map cB).toArray)) (hy : ev l y = some (.agg (ys.map cB).toArray)) (hxl : xs.length = n) (hyl : ys.length = n) (h : W P fn k ops rest ((d, .bool (!decide (xs = ys))) :: l) w) :
    W P fn k ops (⟨some d, .binOp .neq t x y t2, ty, pos, after, none⟩ :: rest) l w :=
  W_val rfl rfl hlt (fun a ha => by simp [execOp, ha.eval hx, ha.eval hy, run_eqGuard_agg w .neq t x y _ _ hgt, binOp, run_eql_u8s ht he hs hse xs ys hxl hyl]) h
theorem mapB_get {xs : List UInt8} {o : Nat} (h : o < xs.length) : (xs.map cB)[o]? = some (cB (xs.getD o 0)) := by
  simp [h]
theorem W_slice_arr {B : Nat} {w0 : World} {L : List Own} {t e e2 : TypeId} {x : Operand} {g len : Nat} {xs : List UInt8} (i : Nat) (hlt : Nat.blt d fn.ntmps = true) (ht : P.underlying t = some (.array len e)) (hi' : (P.info? e).isSome = true)
    (hx : ev l x = some (pl g 0)) (hL : Led B w0 w L) (hi : L[i]? = some (g, e2, xs.map cB)) (hlen : xs.length = len) (hmax : len ≤ maxLen) (h : ∀ v, Sl g (g + 1) w.heap 1 encB v xs → W P fn k ops rest ((d, v) :: l) w) :
    W P fn k ops (⟨some d, .slice t x none none none, ty, pos, after, none⟩ :: rest) l w := by
  obtain ⟨inf, hinfo⟩ := Option.isSome_iff_exists.1 hi'
  obtain ⟨h1, h2, h3⟩ := hL.own i _ hi
  have hs := sl_of_block (enc := encB) (ds := xs) (cap := len) h3 1 (fun _ => rfl) (flat_cB xs).symm (by omega) hmax (Nat.le_refl g) (Nat.lt_succ_self g)
  refine W_val rfl rfl hlt (w' := w) (fun aa ha => ?_) (h _ hs)
  subst hlen
  simp [execOp, ha.eval hx, Instr.sliceAt, Instr.sureAddr, run_underlying ht, Instr.sliceBounds, sizeOf, typeInfo, hinfo, pl, Addr.add_zero']
theorem W_make_u8 {t e : TypeId} {x y : Operand} {kl kc : IntKind} (n : Nat) (hlt : Nat.blt d fn.ntmps = true) (ht : P.underlying t = some (.slice e)) (hrow : (P.info? e).map (fun i => (i.zero, i.size, i.bytes)) = some (some (.int .u8 0), 1, 1))
    (hx : ev l x = some (.int kl (n : Int))) (hy : ev l y = some (.int kc (n : Int))) (hn : n ≤ 1000000)
    (h : ∀ v w', w'.heap.size = w.heap.size + 1 → Below w.heap.size w w' → Sl w.heap.size w'.heap.size w'.heap 1 encB v (List.replicate n 0) → W P fn k ops rest ((d, v) :: l) w') :
    W P fn k ops (⟨some d, .makeSlice t x y, ty, pos, after, none⟩ :: rest) l w := by
  obtain ⟨i, hi, hz0, hz1, hz2⟩ := info_parts hrow
  have hr := run_makeSlice (P := P) w t e i (.int .u8 0) ht hi hz0 kl kc (n : Int) (n : Int) (by omega) (by omega) (by rw [hz1]; omega) (by rw [hz2]; omega) (by omega)
  have hm : (madeCells (Value.int .u8 0).cells ((n : Int).toNat * i.size)) = ((List.replicate n (0 : UInt8)).flatMap encB).toArray := by
    rw [hz1, flat_cB]
    apply Array.ext
    · simp [madeCells]
    · intro j h1 h2
      simp [madeCells, Nat.mod_one, cB, show (Value.int IntKind.u8 0).cells = #[Value.int .u8 0] from rfl]
  rw [hm] at hr
  refine W_val rfl rfl hlt (v := .slice (some ⟨w.heap.size, 0, none⟩) n n) (w' := w.alloc (.cells ((List.replicate n (0 : UInt8)).flatMap encB).toArray e)) (fun a ha => by simp [execOp, ha.eval hx, ha.eval hy, hr]) (h _ _ (by simp) (alloc_below _ _) ?_)
  have := sl_of_block (heap_alloc_new w (.cells ((List.replicate n (0 : UInt8)).flatMap encB).toArray e)) 1 (fun _ => rfl) rfl n (by simp) (by simp [maxLen]; omega) (Nat.le_refl w.heap.size) (show w.heap.size < (w.alloc (.cells ((List.replicate n (0 : UInt8)).flatMap encB).toArray e)).heap.size by simp)
  simpa using this
end
end Go.Wk
