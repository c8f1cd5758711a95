/- Plain lemmas on the words of lifted functions. -/
import Derived.Test.YtoanecpanckkeaaLsort
namespace Go.Wk
set_option linter.unusedVariables false

theorem iter_rule {S A : Type} {F : (S → Option A) → S → Option A} (Inv : S → Prop) (m : S → Nat) (g : S → Option A) (h : ∀ rec s, Inv s → (∀ s', Inv s' → m s' < m s → rec s' = g s') → F rec s = g s) : ∀ n s, Inv s → m s < n → iter F n s = g s := by
  intro n
  induction n with
  | zero => intro s _ hm; omega
  | succ n ih => intro s hs hm; exact h (iter F n) s hs fun s' hs' hlt => ih s' hs' (by omega)
theorem loop_rule {S A : Type} {F : (S → Option A) → S → Option A} {s0 : S} (Inv : S → Prop) (m : S → Nat) (g : S → Option A) (h0 : Inv s0) (hm : m s0 < 4611686018427387904) (h : ∀ rec s, Inv s → (∀ s', Inv s' → m s' < m s → rec s' = g s') → F rec s = g s) : loop F s0 = g s0 :=
  iter_rule Inv m g h _ s0 h0 hm
/-- the value is one and the same all the way -/
theorem loop_const {S A : Type} {F : (S → Option A) → S → Option A} {s0 : S} {a : Option A} (Inv : S → Prop) (m : S → Nat) (h0 : Inv s0) (hm : m s0 < 4611686018427387904) (h : ∀ rec s, Inv s → (∀ s', Inv s' → m s' < m s → rec s' = a) → F rec s = a) : loop F s0 = a :=
  loop_rule Inv m (fun _ => a) h0 hm h
@[simp] theorem bd_mk {α β : Type} (x : α) (f : α → Option β) : bd (some x) f = f x := rfl
theorem bd_eq {α β : Type} {o : Option α} {x : α} (h : o = some x) (f : α → Option β) : bd o f = f x := by rw [h]; rfl
theorem ix_nat {α : Type} (l : List α) (n : Nat) : ix l (n : Int) = l[n]? := rfl
theorem ix_at {α : Type} {l : List α} {i : Int} {n : Nat} (hi : i = (n : Int)) (h : n < l.length) : ix l i = some l[n] := by subst hi; rw [ix_nat]; exact List.getElem?_eq_getElem h
theorem wr_id {x : Int} (h0 : -9223372036854775808 ≤ x) (h1 : x ≤ 9223372036854775807) : wr x = x := i64_id h0 h1
theorem app_ok {α : Type} {xs ys : List α} (h : xs.length + ys.length ≤ 1073741824) : app xs ys = some (xs ++ ys) := if_pos h
theorem cut_ok {α : Type} {l : List α} {a b : Int} (h0 : 0 ≤ a) (h1 : a ≤ b) (h2 : b ≤ (l.length : Int)) : cut l a b = some ((l.take b.toNat).drop a.toNat) := if_pos ⟨h0, h1, h2⟩
theorem rep_ok {α : Type} {n : Int} {x : α} (h0 : 0 ≤ n) (h1 : n ≤ 1073741824) : rep n x = some (List.replicate n.toNat x) := if_pos ⟨h0, h1⟩
theorem put_ok {α : Type} {l : List α} {i : Int} {x : α} (h0 : 0 ≤ i) (h1 : i < (l.length : Int)) : put l i x = some (l.set i.toNat x) := if_pos ⟨h0, h1⟩
theorem only_f {α : Type} {b : Bool} {o : Option α} {z : α} (h : b = false) : only b o z = some z := if_neg (by rw [h]; decide)
theorem lt_t {n m : Nat} (h : n < m) : decide ((n : Int) < (m : Int)) = true := decide_eq_true (by omega)
theorem lt_f {n m : Nat} (h : ¬ n < m) : decide ((n : Int) < (m : Int)) = false := decide_eq_false (by omega)
theorem ix_lt {α : Type} {l : List α} {n : Nat} (h : n < l.length) : ix l (n : Int) = some l[n] := List.getElem?_eq_getElem h
theorem wr_succ {n : Nat} (h : n < 4611686018427387904) : wr ((n : Int) + 1) = ((n + 1 : Nat) : Int) := by rw [wr_id (by omega) (by omega)]; rfl
theorem wr_pred {n : Nat} (h0 : 0 < n) (h : n < 4611686018427387904) : wr ((n : Int) - 1) = ((n - 1 : Nat) : Int) := by rw [wr_id (by omega) (by omega)]; omega
theorem iter_for {S σ A : Type} {F : (S → Option A) → S → Option A} (mk : Nat → σ → S) (n : Nat) (Inv : Nat → σ → Prop) (Post : Option A → Prop)
    (hstep : ∀ rec i s, i < n → Inv i s → (∀ s', Inv (i + 1) s' → Post (rec (mk (i + 1) s'))) → Post (F rec (mk i s))) (hend : ∀ rec s, Inv n s → Post (F rec (mk n s))) : ∀ k i s, i ≤ n → n - i < k → Inv i s → Post (iter F k (mk i s)) := by
  intro k
  induction k with
  | zero => intro i s _ h _; omega
  | succ k ih =>
    intro i s hi hk hI
    by_cases h : i = n
    · subst h; exact hend (iter F k) s hI
    · exact hstep (iter F k) i s (by omega) hI fun s' hs' => ih (i + 1) s' (by omega) (by omega) hs'
/-- a loop that counts: what holds of its value -/
theorem loop_for {S σ A : Type} {F : (S → Option A) → S → Option A} (mk : Nat → σ → S) (n : Nat) (Inv : Nat → σ → Prop) (Post : Option A → Prop) {i0 : Nat} {s0 : σ} {x0 : S} (hx : x0 = mk i0 s0) (hi0 : i0 ≤ n) (h0 : Inv i0 s0) (hn : n < 4611686018427387904)
    (hstep : ∀ rec i s, i < n → Inv i s → (∀ s', Inv (i + 1) s' → Post (rec (mk (i + 1) s'))) → Post (F rec (mk i s))) (hend : ∀ rec s, Inv n s → Post (F rec (mk n s))) : Post (loop F x0) :=
  hx ▸ iter_for mk n Inv Post hstep hend _ i0 s0 hi0 (by omega) h0
/-- .. its value is one and the same -/
theorem loop_eq {S σ A : Type} {F : (S → Option A) → S → Option A} (mk : Nat → σ → S) (n : Nat) (Inv : Nat → σ → Prop) (a : Option A) {i0 : Nat} {s0 : σ} {x0 : S} (hx : x0 = mk i0 s0) (hi0 : i0 ≤ n) (h0 : Inv i0 s0) (hn : n < 4611686018427387904)
    (hstep : ∀ rec i s, i < n → Inv i s → (∀ s', Inv (i + 1) s' → rec (mk (i + 1) s') = a) → F rec (mk i s) = a) (hend : ∀ rec s, Inv n s → F rec (mk n s) = a) : loop F x0 = a := by
  exact loop_for mk n Inv (fun o => o = a) hx hi0 h0 hn hstep hend
/-- .. a fold of what is still to come -/
theorem loop_fold {S σ α A : Type} {F : (S → Option A) → S → Option A} (mk : Nat → σ → S) (l : List α) (f : σ → α → σ) (K : σ → Option A) (Inv : Nat → σ → Prop) {i0 : Nat} {s0 : σ} {x0 : S} (hx : x0 = mk i0 s0) (hi0 : i0 ≤ l.length) (h0 : Inv i0 s0) (hn : l.length < 4611686018427387904)
    (hstep : ∀ rec i s (h : i < l.length), Inv i s → Inv (i + 1) (f s l[i]) ∧ F rec (mk i s) = rec (mk (i + 1) (f s l[i]))) (hend : ∀ rec s, Inv l.length s → F rec (mk l.length s) = K s) : loop F x0 = K ((l.drop i0).foldl f s0) := by
  refine loop_eq mk l.length (fun i s => i ≤ l.length ∧ Inv i s ∧ K ((l.drop i).foldl f s) = K ((l.drop i0).foldl f s0)) _ hx hi0 ⟨hi0, h0, rfl⟩ hn ?_ ?_
  · intro rec i s hi hI hrec
    obtain ⟨h1, h2⟩ := hstep rec i s hi hI.2.1
    rw [h2]
    refine hrec _ ⟨by omega, h1, ?_⟩
    rw [← hI.2.2, List.drop_eq_getElem_cons hi]; rfl
  · intro rec s hI
    rw [hend rec s hI.2.1, ← hI.2.2, List.drop_length]; rfl
theorem take_snoc' {α : Type} {l : List α} {i : Nat} (h : i < l.length) : l.take (i + 1) = l.take i ++ [l[i]] := List.take_succ_eq_append_getElem h
theorem Zs {P : Program} {fn : Func} {k : Kont} {g : Gd} {d : Nat} {w' : World} {l : Env} {v : Value} {ops : Array Oper} (hl : look l d = some v) (hG : g.ok v w') : W P fn (.loop (StepJ g d w') k) ops [] l w' :=
  W_nil (N_step hl hG (Below.refl _ _))
end Go.Wk
