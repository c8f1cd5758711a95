/- Values, a heap and operations of plain data: what a program's code does in one order, where no capacity is asked that is not known. -/
import Derived.WalkKit
import Derived.Deep.LoopGhost
import Derived.Deep.AppendSrc
import Derived.Deep.MidRow
import Derived.Laws.IdiomStrings
import Derived.Deep.Upon
import Derived.Lib.AppendZeros
namespace Go.V
set_option linter.unusedVariables false
set_option linter.unusedSectionVars false
set_option linter.unusedSimpArgs false
inductive T (α : Type) where
  | lf
  | nd (v : Option α) (l r : T α)
namespace T
variable {α : Type}
def get : T α → Nat → Option α
  | .lf, _ => none
  | .nd v l r, n => match n with
    | 0 => v
    | m + 1 => bif Nat.beq (m % 2) 0 then l.get (m / 2) else r.get (m / 2)
def val : T α → Option α
  | .lf => none
  | .nd v _ _ => v
def lft : T α → T α
  | .lf => .lf
  | .nd _ l _ => l
def rgt : T α → T α
  | .lf => .lf
  | .nd _ _ r => r
def setF : Nat → T α → Nat → α → T α
  | 0, t, _, _ => t
  | f + 1, t, n, x => match n with
    | 0 => .nd (some x) t.lft t.rgt
    | m + 1 => bif Nat.beq (m % 2) 0 then .nd t.val (setF f t.lft (m / 2) x) t.rgt else .nd t.val t.lft (setF f t.rgt (m / 2) x)
def set (t : T α) (n : Nat) (x : α) : T α := setF (n + 1) t n x
theorem get_succ (t : T α) (m : Nat) : t.get (m + 1) = bif Nat.beq (m % 2) 0 then t.lft.get (m / 2) else t.rgt.get (m / 2) := by
  cases t with
  | lf => simp [get, lft, rgt]
  | nd v l r => rfl
theorem get_zero (t : T α) : t.get 0 = t.val := by cases t <;> rfl
theorem get_setF (x : α) : ∀ (f : Nat) (t : T α) (n k : Nat), n < f → (setF f t n x).get k = if k = n then some x else t.get k := by
  intro f
  induction f with
  | zero => intro t n k h; omega
  | succ f ih =>
    intro t n k h
    cases n with
    | zero =>
      cases k with
      | zero => rfl
      | succ k => simp only [setF]; rw [get_succ t k, if_neg (by omega)]; rfl
    | succ m =>
      cases k with
      | zero =>
        rw [if_neg (by omega), get_zero]
        simp only [setF]
        cases hm : Nat.beq (m % 2) 0 <;> simp [cond, val, get_zero]
      | succ k =>
        simp only [setF]
        have e1 : (k + 1 = m + 1) ↔ k = m := by omega
        cases hm : Nat.beq (m % 2) 0 <;> cases hk : Nat.beq (k % 2) 0 <;> simp only [cond, get, hk, get_succ t k]
        · rw [ih _ _ _ (by omega)]
          have hm' : m % 2 ≠ 0 := Nat.ne_of_beq_eq_false hm
          have hk' : k % 2 ≠ 0 := Nat.ne_of_beq_eq_false hk
          by_cases he : k = m
          · subst he; simp
          · rw [if_neg (by omega), if_neg (by omega)]
        · have hm' : m % 2 ≠ 0 := Nat.ne_of_beq_eq_false hm
          have hk' : k % 2 = 0 := Nat.eq_of_beq_eq_true hk
          rw [if_neg (by omega)]
        · have hm' : m % 2 = 0 := Nat.eq_of_beq_eq_true hm
          have hk' : k % 2 ≠ 0 := Nat.ne_of_beq_eq_false hk
          rw [if_neg (by omega)]
        · rw [ih _ _ _ (by omega)]
          have hm' : m % 2 = 0 := Nat.eq_of_beq_eq_true hm
          have hk' : k % 2 = 0 := Nat.eq_of_beq_eq_true hk
          by_cases he : k = m
          · subst he; simp
          · rw [if_neg (by omega), if_neg (by omega)]
theorem get_set (t : T α) (n k : Nat) (x : α) : (t.set n x).get k = if k = n then some x else t.get k := get_setF x (n + 1) t n k (by omega)
end T
inductive Cap where
  | k (n : Nat)
  | op (z m : Nat)
  deriving DecidableEq, Inhabited
def Cap.of (z m : Nat) : Option Nat → Cap
  | some n => .k n
  | none => .op z m
@[simp] theorem Cap.of_some (z m n : Nat) : Cap.of z m (some n) = .k n := rfl
@[simp] theorem Cap.of_none (z m : Nat) : Cap.of z m none = .op z m := rfl
inductive Val where
  | b (x : Bool)
  | i (k : IntKind) (n : Int)
  | s (x : List UInt8)
  | p (a : Option (Nat × Nat))
  | sl (a : Option (Nat × Nat)) (len : Nat) (cap : Cap)
  | es
  | m (r : Option Nat)
  | f (fn : FuncId) (caps : List Val)
  | nf
  | un
  | y (k : IntKind) (j : Nat) (lo hi : Int)
  | yl (l : Nat)
  | agg (cs : List Val)
  | tup (vs : List Val)
  deriving Inhabited
def Val.cells : Val → List Val
  | .agg cs => cs
  | v => [v]
def Val.one : Val → Bool
  | .agg _ | .tup _ => false
  | _ => true
def Val.no : Val := .tup []
inductive Blk where
  | cells (z : Nat) (c : List Val)
  | ro (c : List Val)
  | map (ck : Nat) (es : List (Nat × Val × Val))
  | dead
structure Hp where
  next : Nat
  t : T Blk
def Hp.get (h : Hp) (b : Nat) : Option Blk := h.t.get b
def Hp.set (h : Hp) (b : Nat) (x : Blk) : Hp := { h with t := h.t.set b x }
def Hp.new (h : Hp) (x : Blk) : Hp := { next := h.next + 1, t := h.t.set h.next x }
def Hp.empty : Hp := ⟨0, .lf⟩
theorem Hp.get_set (h : Hp) (b k : Nat) (x : Blk) : (h.set b x).get k = if k = b then some x else h.get k := T.get_set _ _ _ _
theorem Hp.get_new (h : Hp) (k : Nat) (x : Blk) : (h.new x).get k = if k = h.next then some x else h.get k := T.get_set _ _ _ _
def cv1 : Value → Option Val
  | .bool x => some (.b x)
  | .int k n => some (.i k n)
  | .string s => some (.s s.data.toList)
  | .pointer none => some (.p none)
  | .slice none 0 0 => some (.sl none 0 (.k 0))
  | .map none => some (.m none)
  | .nilFunc => some .nf
  | _ => none
def cv : Value → Option Val
  | .agg cs => (cs.toList.mapM cv1).map .agg
  | v => cv1 v
section
variable (P : Program)
def sz (t : TypeId) : Option Nat := (P.info? t).map (·.size)
def zeroV (t : TypeId) : Option Val := (P.info? t).bind fun i => i.zero.bind cv
def aggT (t : TypeId) : Option Bool := (P.underlying t).map fun | .struct _ | .array _ _ => true | _ => false
def fldT (t : TypeId) (f : Nat) : Option Field := match P.underlying t with
  | some (.struct fs) => fs[f]?
  | _ => none
end
def rd (h : Hp) (b o n : Nat) : Option (List Val) := match h.get b with
  | some (.cells _ c) => if o + n ≤ c.length then some ((c.drop o).take n) else none
  | some (.ro c) => if o + n ≤ c.length then some ((c.drop o).take n) else none
  | _ => none
def putL (c : List Val) (o : Nat) (vs : List Val) : List Val := c.take o ++ vs ++ c.drop (o + vs.length)
def wrH (h : Hp) (b o : Nat) (vs : List Val) : Option Hp := match h.get b with
  | some (.cells z c) => if o + vs.length ≤ c.length ∧ vs.all Val.one then some (h.set b (.cells z (putL c o vs))) else none
  | _ => none
def partV (P : Program) (t : TypeId) (cs : List Val) (o : Nat) : Option Val :=
  (aggT P t).bind fun a => bif a then (sz P t).bind fun n => if o + n ≤ cs.length then some (.agg ((cs.drop o).take n)) else none else cs[o]?
def ldV (P : Program) (h : Hp) (t : TypeId) : Val → Option Val
  | .p (some (b, o)) => (aggT P t).bind fun a => bif a then (sz P t).bind fun n => (rd h b o n).map .agg else (rd h b o 1).bind List.head?
  | _ => none
def stV (P : Program) (h : Hp) (t : TypeId) (a v : Val) : Option Hp := match a with
  | .p (some (b, o)) => (sz P t).bind fun n => if v.cells.length = n then wrH h b o v.cells else none
  | _ => none
def ibin (op : BinOp) (k : IntKind) (a b : Int) : Option Val := match op with
  | .add => some (.i k (k.wrap (a + b)))
  | .sub => some (.i k (k.wrap (a - b)))
  | .mul => some (.i k (k.wrap (a * b)))
  | .quo => if b = 0 then none else some (.i k (k.wrap (a.tdiv b)))
  | .rem => if b = 0 then none else some (.i k (a.tmod b))
  | .and => some (.i k (k.wrap (BitVec.ofInt k.bits a &&& BitVec.ofInt k.bits b).toNat))
  | .or => some (.i k (k.wrap (BitVec.ofInt k.bits a ||| BitVec.ofInt k.bits b).toNat))
  | .xor => some (.i k (k.wrap (BitVec.ofInt k.bits a ^^^ BitVec.ofInt k.bits b).toNat))
  | .andNot => some (.i k (k.wrap (BitVec.ofInt k.bits a &&& ~~~(BitVec.ofInt k.bits b)).toNat))
  | .eql => some (.b (a == b))
  | .neq => some (.b (a != b))
  | .lss => some (.b (a < b))
  | .leq => some (.b (a ≤ b))
  | .gtr => some (.b (a > b))
  | .geq => some (.b (a ≥ b))
  | _ => none
def shV (op : BinOp) (k : IntKind) (x y : Int) : Option Val := if y < 0 then none else match op with
  | .shl => some (.i k (k.wrap (x * 2 ^ min y.toNat k.bits)))
  | .shr => some (.i k (x.fdiv (2 ^ min y.toNat k.bits)))
  | _ => none
def strV (op : BinOp) (x y : List UInt8) : Option Val := match op with
  | .add => if x.length + y.length ≤ 2 ^ 62 then some (.s (x ++ y)) else none
  | .eql => some (.b (x == y))
  | .neq => some (.b (!(x == y)))
  | .lss => some (.b (Op.bytesLess x y))
  | .leq => some (.b (Op.bytesLess x y || x == y))
  | .gtr => some (.b (!(Op.bytesLess x y || x == y)))
  | .geq => some (.b (!Op.bytesLess x y))
  | _ => none
def eq1 : Val → Val → Bool
  | .b x, .b y => x == y
  | .i j x, .i k y => j == k && x == y
  | .s x, .s y => x == y
  | _, _ => false
def eqL : List Val → List Val → Bool
  | [], [] => true
  | x :: xs, y :: ys => eq1 x y && eqL xs ys
  | _, _ => false
def plainT (P : Program) (t : TypeId) : Option TypeDesc := match P.underlying t with
  | some .bool => some .bool
  | some (.int k) => some (.int k)
  | some .string => some .string
  | _ => none
def plainF (P : Program) : Nat → List Field → Option (List TypeDesc)
  | _, [] => some []
  | k, f :: r => if f.name ≠ "_" ∧ f.offset = k then (plainT P f.type).bind fun d => (plainF P (k + 1) r).map (d :: ·) else none
def flatT (P : Program) (t : TypeId) : Option (List TypeDesc) := match P.underlying t with
  | some (.struct fs) => if P.stoodInHeld t then none else plainF P 0 fs.toList
  | some (.array n e) => if sz P e = some 1 then (plainT P e).map (List.replicate n) else none
  | _ => none
def leafOk : TypeDesc → Val → Bool
  | .bool, .b _ => true
  | .int k, .i j _ => j == k
  | .string, .s _ => true
  | _, _ => false
def leavesOk : List TypeDesc → List Val → Bool
  | [], [] => true
  | t :: ts, v :: vs => leafOk t v && leavesOk ts vs
  | _, _ => false
def eqV (P : Program) (t : TypeId) (x y : Val) : Option Bool := match P.underlying t, x, y with
  | some .bool, .b a, .b c => some (a == c)
  | some (.pointer _), .p none, .p a => some a.isNone
  | some (.pointer _), .p (some _), .p none => some false
  | some (.slice _), .sl none _ _, .sl a _ _ => some a.isNone
  | some (.slice _), .sl (some _) _ _, .sl none _ _ => some false
  | some (.slice _), .es, .sl none _ _ => some false
  | some (.slice _), .sl none _ _, .es => some false
  | some (.func _ _ _), .nf, .nf => some true
  | some (.func _ _ _), .nf, .f _ _ => some false
  | some (.func _ _ _), .f _ _, .nf => some false
  | some (.map _ _), .m none, .m a => some a.isNone
  | some (.map _ _), .m (some _), .m none => some false
  | some (.struct _), .agg xs, .agg ys => match flatT P t with
    | some l => if leavesOk l xs && leavesOk l ys && !P.eqGuardType P.depth t then some (eqL xs ys) else none
    | none => none
  | some (.array _ _), .agg xs, .agg ys => match flatT P t with
    | some l => if leavesOk l xs && leavesOk l ys && !P.eqGuardType P.depth t then some (eqL xs ys) else none
    | none => none
  | _, _, _ => none
def cmpY (op : BinOp) (lo hi c : Int) : Option Val := match op with
  | .lss => if hi < c then some (.b true) else if c ≤ lo then some (.b false) else none
  | .leq => if hi ≤ c then some (.b true) else if c < lo then some (.b false) else none
  | .gtr => if c < lo then some (.b true) else if hi ≤ c then some (.b false) else none
  | .geq => if c ≤ lo then some (.b true) else if hi < c then some (.b false) else none
  | .eql => if c < lo ∨ hi < c then some (.b false) else none
  | .neq => if c < lo ∨ hi < c then some (.b true) else none
  | _ => none
def flipY : BinOp → BinOp
  | .lss => .gtr
  | .leq => .geq
  | .gtr => .lss
  | .geq => .leq
  | op => op
def sameY : BinOp → Option Val
  | .lss => some (.b false)
  | .leq => some (.b true)
  | .gtr => some (.b false)
  | .geq => some (.b true)
  | .eql => some (.b true)
  | .neq => some (.b false)
  | _ => none
def yV (op : BinOp) (x y : Val) : Option Val := match x, y with
  | .y k _ lo hi, .i q c => if k = q then cmpY op lo hi c else none
  | .i q c, .y k _ lo hi => if k = q then cmpY (flipY op) lo hi c else none
  | .y k j _ _, .y q i _ _ => if k = q ∧ j = i then sameY op else none
  | _, _ => none
def yW (op : BinOp) (x y : Val) : Option Val := match op, y with
  | .shr, .i _ c => if c = 0 then some x else none
  | op, y => yV op x y
def binV (P : Program) (op : BinOp) (t : TypeId) (x y : Val) : Option Val := match x, y with
  | .i k a, .i j c => match op with
    | .shl => shV .shl k a c
    | .shr => shV .shr k a c
    | _ => if k = j then ibin op k a c else none
  | .s a, .s c => strV op a c
  | .y k j lo hi, y => yW op (.y k j lo hi) y
  | x, .y k j lo hi => yV op x (.y k j lo hi)
  | x, y => match op with
    | .eql => (eqV P t x y).map .b
    | .neq => (eqV P t x y).map fun q => .b (!q)
    | _ => none
def unV (op : UnOp) (x : Val) : Option Val := match op, x with
  | .neg, .i k n => some (.i k (k.wrap (0 - n)))
  | .xor, .i k n => ibin .xor k (if k.signed then -1 else k.max) n
  | .not, .b c => some (.b (!c))
  | _, _ => none
def natV : Val → Option Nat
  | .i _ n => if 0 ≤ n ∧ n ≤ 2 ^ 40 then some n.toNat else none
  | _ => none
def natI : Val → Option Nat
  | .i _ n => if 0 ≤ n then some n.toNat else none
  | _ => none
def optNat : Option Val → Nat → Option Nat
  | none, d => some d
  | some v, _ => natI v
def bndV (len cap : Nat) (lo hi mx : Option Val) : Option (Nat × Nat × Nat) :=
  (optNat mx cap).bind fun m => (optNat hi len).bind fun h => (optNat lo 0).bind fun l => if m ≤ cap ∧ h ≤ m ∧ l ≤ h ∧ (mx.isSome → hi.isSome) then some (l, h, m) else none
def sliceV (P : Program) (t : TypeId) (x : Val) (lo hi mx : Option Val) : Option Val := match P.underlying t, x with
  | some .string, .s s => if mx.isSome then none else (bndV s.length s.length lo hi none).map fun q => .s ((s.drop q.1).take (q.2.1 - q.1))
  | some (.slice e), .sl a len (.k k) => (sz P e).bind fun z => (bndV len k lo hi mx).map fun q =>
      .sl (if q.2.2 = q.1 then a else a.map fun c => (c.1, c.2 + q.1 * z)) (q.2.1 - q.1) (.k (q.2.2 - q.1))
  | some (.slice e), .sl (some (b, o)) len (.op z' m) => (sz P e).bind fun z => (if z' = z then bndV len m lo hi mx else none).map fun q =>
      if mx.isSome then .sl (some (if q.2.2 = q.1 then (b, o) else (b, o + q.1 * z))) (q.2.1 - q.1) (.k (q.2.2 - q.1))
      else if q.1 < m then .sl (some (b, o + q.1 * z)) (q.2.1 - q.1) (.op z (m - q.1)) else .es
  | some (.slice e), .es => (sz P e).bind fun _ => (bndV 0 0 lo hi mx).map fun _ => .es
  | some (.array n e), .p (some (b, o)) => (sz P e).bind fun z => (bndV n n lo hi mx).map fun q =>
      .sl (some (if q.2.2 = q.1 then (b, o) else (b, o + q.1 * z))) (q.2.1 - q.1) (.k (q.2.2 - q.1))
  | some (.pointer arr), .p (some (b, o)) => match P.underlying arr with
    | some (.array n e) => (sz P e).bind fun z => (bndV n n lo hi mx).map fun q =>
      .sl (some (if q.2.2 = q.1 then (b, o) else (b, o + q.1 * z))) (q.2.1 - q.1) (.k (q.2.2 - q.1))
    | _ => none
  | _, _ => none
def idxA (P : Program) (t : TypeId) (x ix : Val) : Option Val := (natI ix).bind fun i => match P.underlying t, x with
  | some (.array n e), .p (some (b, o)) => (sz P e).bind fun z => if i < n then some (.p (some (b, o + i * z))) else none
  | some (.slice e), .sl (some (b, o)) len _ => (sz P e).bind fun z => if i < len then some (.p (some (b, o + i * z))) else none
  | _, _ => none
def idxV (P : Program) (t : TypeId) (x ix : Val) : Option Val := (natI ix).bind fun i => match P.underlying t, x with
  | some (.array n e), .agg cs => (sz P e).bind fun z => if i < n then partV P e cs (i * z) else none
  | some .string, .s s => (s[i]?).map fun c => .i .u8 c.toNat
  | _, _ => none
def fillV (place : Nat → Option (Nat × Nat)) (cells : List Val) : List (Nat × Val) → Option (List Val)
  | [] => some cells
  | (i, v) :: rest => (place i).bind fun q => if v.cells.length = q.2 ∧ q.1 + v.cells.length ≤ cells.length then fillV place (putL cells q.1 v.cells) rest else none
def zerosV (z : List Val) (n : Nat) : List Val := (List.replicate n z).flatten
def buildV (P : Program) (t : TypeId) (parts : List (Nat × Val)) : Option Val := (zeroV P t).bind fun zero => match P.underlying t with
  | some (.struct fs) => (fs.toList.mapM fun f => (sz P f.type).map fun n => (f.offset, n)).bind fun pl => (fillV (fun i => pl[i]?) zero.cells parts).map .agg
  | some (.array _ e) => (sz P e).bind fun z => (fillV (fun i => some (i * z, z)) zero.cells parts).map .agg
  | _ => none
def allocV (h : Hp) (z : Nat) (c : List Val) : Option (Val × Hp) := if c.all Val.one then some (.p (some (h.next, 0)), h.new (.cells z c)) else none
def rowV (h : Hp) (z : Nat) (c : List Val) (len : Nat) (cap : Option Nat) : Option (Val × Hp) :=
  if c.all Val.one then some (.sl (some (h.next, 0)) len (.of z len cap), h.new (.cells z c)) else none
def buildSliceV (P : Program) (h : Hp) (t : TypeId) (len : Nat) (parts : List (Nat × Val)) : Option (Val × Hp) := match P.underlying t with
  | some (.slice e) => (sz P e).bind fun z => (zeroV P e).bind fun zero => if len * z ≤ 2 ^ 24 ∧ zero.cells.length = z ∧ 0 < z then
      (fillV (fun i => some (i * z, z)) (zerosV zero.cells len) parts).bind fun c => rowV h z c len (some len) else none
  | _ => none
def makeSliceV (P : Program) (h : Hp) (t : TypeId) (len cap : Val) : Option (Val × Hp) := match P.underlying t with
  | some (.slice e) => (sz P e).bind fun z => (zeroV P e).bind fun zero => (natV len).bind fun l => (natV cap).bind fun c => (P.info? e).bind fun i =>
      if l ≤ c ∧ i.bytes * c ≤ 2 ^ 48 ∧ zero.cells.length = z ∧ 0 < z then rowV h z (zerosV zero.cells c) l (some c) else none
  | _ => none
def firstV (h : Hp) (z n : Nat) : Val → Option (List Val)
  | .sl (some (b, o)) _ _ => if n = 0 then some [] else rd h b o (n * z)
  | .sl none _ _ => some []
  | .es => if n = 0 then some [] else none
  | .s s => some ((s.take n).map fun c => .i .u8 c.toNat)
  | _ => none
def lenV : Val → Option Nat
  | .sl _ n _ => some n
  | .es => some 0
  | .s s => some s.length
  | _ => none
def moreV (P : Program) (h : Hp) (e : TypeId) (z : Nat) (zeros : Bool) (x : Val) : Option (Nat × List Val) :=
  bif zeros then (natV x).bind fun n => (zeroV P e).bind fun zero => if zero.cells.length = z then some (n, zerosV zero.cells n) else none
  else (lenV x).bind fun n => (firstV h z n x).map fun c => (n, c)
def zerosK (P : Program) (t : TypeId) : Option Bool := match P.underlying t with
  | some (.int _) => some true
  | some (.slice _) | some .string => some false
  | _ => none
def appV (h : Hp) (z n : Nat) (c : List Val) (s : Val) : Option (Val × Hp) := match s with
  | .sl none len cap => if len = 0 ∧ cap = .k 0 then if n = 0 then some (s, h) else rowV h z c n none else none
  | .es => if n = 0 then some (s, h) else none
  | .sl (some (b, o)) len (.k k) =>
    if len + n ≤ k then (wrH h b (o + len * z) c).map fun h' => (.sl (some (b, o)) (len + n) (.k k), h')
    else if len ≤ k ∧ len ≤ 2 ^ 30 then (firstV h z len s).bind fun d => rowV h z (d ++ c) (len + n) none else none
  | .sl (some (b, o)) len (.op _ m) => match h.get b with
    | some (.cells z' d) =>
      if z' = z ∧ len ≤ 2 ^ 30 ∧ o + len * z ≤ d.length then
        if o + (len + n) * z ≤ d.length then (wrH h b (o + len * z) c).map fun h' => (.sl (some (b, o)) (len + n) (.op z (max m (len + n))), h')
        else (firstV h z len s).bind fun d => rowV (h.set b .dead) z (d ++ c) (len + n) none
      else none
    | _ => none
  | _ => none
def appendV (P : Program) (h : Hp) (ts : List TypeId) (s x : Val) : Option (Val × Hp) := match ts with
  | [t, tx] => (match P.underlying t with
    | some (.slice e) => (sz P e).bind fun z => (P.info? e).bind fun inf => (zeroV P e).bind fun zero => (zerosK P tx).bind fun zk => (moreV P h e z zk x).bind fun q =>
      if zero.cells.length = z ∧ 0 < z ∧ q.1 ≤ 2 ^ 30 ∧ 0 < inf.bytes ∧ inf.bytes ≤ 2 ^ 12 ∧ q.2.length = q.1 * z ∧ q.2.all Val.one then appV h z q.1 q.2 s else none
    | _ => none)
  | _ => none
def copyV (P : Program) (h : Hp) (ts : List TypeId) (d s : Val) : Option (Val × Hp) :=
  (ts[0]?).bind fun t => match P.underlying t with
  | some (.slice e) => (sz P e).bind fun z => (lenV s).bind fun m => match d with
    | .sl (some (b, o)) len _ => (firstV h z (min m len) s).bind fun c => if c.length = min m len * z then (wrH h b o c).map fun h' => (.i .i64 ((min m len : Nat) : Int), h') else none
    | .sl none len _ => if len = 0 then some (.i .i64 0, h) else none
    | .es => some (.i .i64 0, h)
    | _ => none
  | _ => none
def clearV (P : Program) (h : Hp) (ts : List TypeId) (d : Val) : Option (Val × Hp) :=
  (ts[0]?).bind fun t => match P.underlying t with
  | some (.slice e) => (zeroV P e).bind fun zero => match d with
    | .sl (some (b, o)) len _ => if len = 0 then some (.tup [], h) else if 0 < zero.cells.length then (wrH h b o (zerosV zero.cells len)).map fun h' => (.tup [], h') else none
    | .sl none _ _ => some (.tup [], h)
    | .es => some (.tup [], h)
    | _ => none
  | _ => none
def lenB (P : Program) (h : Hp) (ts : List TypeId) (x : Val) : Option Val :=
  (ts[0]?).bind fun t => match P.underlying t, x with
  | some .string, .s s => some (.i .i64 s.length)
  | some (.array n _), _ => some (.i .i64 n)
  | some (.slice _), .sl _ n _ => some (.i .i64 n)
  | some (.slice _), .es => some (.i .i64 0)
  | some (.map _ _), .m none => some (.i .i64 0)
  | some (.map _ _), .m (some r) => match h.get r with
    | some (.map _ es) => some (.i .i64 es.length)
    | _ => none
  | some (.pointer a), .p (some _) => match P.underlying a with
    | some (.array n _) => some (.i .i64 n)
    | _ => none
  | _, _ => none
def capB (P : Program) (ts : List TypeId) (x : Val) : Option Val :=
  (ts[0]?).bind fun t => match P.underlying t, x with
  | some (.slice _), .sl _ _ (.k k) => some (.i .i64 k)
  | _, _ => none
def mm2 (mx : Bool) : Val → Val → Option Val
  | .i k x, .i j y => if k = j then some (.i k (bif mx then (if y > x then y else x) else (if y < x then y else x))) else none
  | _, _ => none
def mmB (mx : Bool) : List Val → Option Val
  | [] => none
  | x :: r => r.foldlM (mm2 mx) x
def keyT (P : Program) (t : TypeId) (k : Val) : Bool := match P.underlying t, k with
  | some (.int j), .i i _ => i == j
  | some .string, .s _ => true
  | some .bool, .b _ => true
  | some (.array _ _), .agg cs => match flatT P t with
    | some l => leavesOk l cs && !P.eqGuardType P.depth t
    | none => false
  | _, _ => false
def keyEq (x y : Val) : Bool := match x, y with
  | .agg a, .agg c => eqL a c
  | x, y => eq1 x y
def findV (k : Val) : List (Nat × Val × Val) → Option (Nat × Val)
  | [] => none
  | (b, k', v) :: r => bif keyEq k k' then some (b, v) else findV k r
def updV (b : Nat) (k v : Val) : List (Nat × Val × Val) → List (Nat × Val × Val)
  | [] => [(b, k, v)]
  | (c, k', u) :: r => bif keyEq k k' then (c, k, v) :: r else (c, k', u) :: updV b k v r
def delV (k : Val) : List (Nat × Val × Val) → List (Nat × Val × Val)
  | [] => []
  | (c, k', u) :: r => bif keyEq k k' then r else (c, k', u) :: delV k r
def putV (b : Nat) (v : Val) : List (Nat × Val × Val) → Option (List (Nat × Val × Val))
  | [] => none
  | (c, k', u) :: r => bif Nat.beq c b then some ((c, k', v) :: r) else (putV b v r).map fun r => (c, k', u) :: r
def keysT (P : Program) (kt : TypeId) (es : List (Nat × Val × Val)) : Bool := es.all fun e => keyT P kt e.2.1
def lookV (P : Program) (h : Hp) (t : TypeId) (m k : Val) (ok : Bool) : Option Val := match P.underlying t with
  | some (.map kt vt) => if keyT P kt k then
      (match m with
      | .m none => some []
      | .m (some r) => match h.get r with
        | some (.map _ es) => if keysT P kt es then some es else none
        | _ => none
      | _ => none : Option (List (Nat × Val × Val))).bind fun es => (zeroV P vt).bind fun zero =>
      let q : Val × Bool := match findV k es with
        | some v => (v.2, true)
        | none => (zero, false)
      some (if ok then .tup [q.1, .b q.2] else q.1) else none
  | _ => none
def ckV (k : Val) (ck : Nat) (es : List (Nat × Val × Val)) : Nat := match findV k es with
  | some _ => ck
  | none => ck + 1
def mapUpdV (P : Program) (h : Hp) (t : TypeId) (m k v : Val) : Option Hp := match P.underlying t, m with
  | some (.map kt _), .m (some r) => match h.get r with
    | some (.map ck es) => if keyT P kt k ∧ keysT P kt es then some (h.set r (.map (ckV k ck es) (updV ck k v es))) else none
    | _ => none
  | _, _ => none
def mapEntV (P : Program) (h : Hp) (t : TypeId) (m k : Val) : Option (Val × Hp) := match P.underlying t, m with
  | some (.map kt vt), .m (some r) => match h.get r with
    | some (.map ck es) => if keyT P kt k ∧ keysT P kt es then (zeroV P vt).map fun zero =>
        let q : Nat × Val := match findV k es with
          | some q => q
          | none => (ck, zero)
        (.tup [q.2, .i .i64 q.1], h.set r (.map (ckV k ck es) (updV ck k q.2 es))) else none
    | _ => none
  | _, _ => none
def mapPutV (h : Hp) (m s v : Val) : Option Hp := match m, s with
  | .m (some r), .i _ (.ofNat b) => match h.get r with
    | some (.map ck es) => (putV b v es).map fun es => h.set r (.map ck es)
    | _ => none
  | _, _ => none
def delB (P : Program) (h : Hp) (ts : List TypeId) (m k : Val) : Option (Val × Hp) := (ts[0]?).bind fun t => match P.underlying t, m with
  | some (.map kt _), .m none => if keyT P kt k then some (.tup [], h) else none
  | some (.map kt _), .m (some r) => match h.get r with
    | some (.map ck es) => if keyT P kt k ∧ keysT P kt es then some (.tup [], h.set r (.map ck (delV k es))) else none
    | _ => none
  | _, _ => none
def bltV (P : Program) (h : Hp) (b : Builtin) (ts : List TypeId) (args : List Val) : Option (Val × Hp) := match b, args with
  | .append, [s, x] => appendV P h ts s x
  | .copy, [d, s] => copyV P h ts d s
  | .clear, [d] => clearV P h ts d
  | .len, [x] => (lenB P h ts x).map fun v => (v, h)
  | .cap, [x] => (capB P ts x).map fun v => (v, h)
  | .delete, [m, k] => delB P h ts m k
  | .max, vs => (mmB true vs).map fun v => (v, h)
  | .min, vs => (mmB false vs).map fun v => (v, h)
  | _, _ => none
def bytesV : List Val → Option (List UInt8)
  | [] => some []
  | .i .u8 n :: r => (bytesV r).map fun l => UInt8.ofNat n.toNat :: l
  | _ => none
def u8T (P : Program) (e : TypeId) : Bool := match P.underlying e with
  | some (.int .u8) => true
  | _ => false
def convV (P : Program) (h : Hp) (src dst : TypeId) (x : Val) : Option (Val × Hp) := match P.underlying src, P.underlying dst, x with
  | some _, some (.int k), .i _ n => some (.i k (k.wrap n), h)
  | some _, some (.int k), .y _ j lo hi => if k.min ≤ lo ∧ hi ≤ k.max then some (.y k j lo hi, h) else none
  | some _, some .string, .s s => some (.s s, h)
  | some .string, some (.slice e), .s s => match P.underlying e with
    | some (.int .u8) => if s = [] then none else rowV h 1 (s.map fun c => .i .u8 c.toNat) s.length none
    | _ => none
  | some (.slice _), some (.slice e), .sl (some a) n c => match src == dst, P.underlying e, h.get a.1 with
    | true, some (.int .u8), some (.cells 1 _) => some (.sl (some a) n c, h)
    | _, _, _ => none
  | some (.slice e), some .string, .sl none _ _ => if u8T P e then some (.s [], h) else none
  | some (.slice e), some .string, .es => if u8T P e then some (.s [], h) else none
  | some (.slice e), some .string, .sl (some (b, o)) n _ => match P.underlying e with
    | some (.int .u8) => (if n = 0 then some [] else rd h b o n).bind fun c => (bytesV c).map fun s => (.s s, h)
    | _ => none
  | _, _, _ => none
abbrev Env := T Val
def evO (env : Env) : Operand → Option Val
  | .tmp t => env.get t
  | .const v => cv v
  | .global _ => none
  | .func f => some (.f f [])
def evL (env : Env) (l : List Operand) : Option (List Val) := l.mapM (evO env)
def evP (env : Env) (l : List (Nat × Operand)) : Option (List (Nat × Val)) := l.mapM fun q => (evO env q.2).map fun v => (q.1, v)
def evQ (env : Env) : Option Operand → Option (Option Val)
  | none => some none
  | some x => (evO env x).map some
def op1 (P : Program) (env : Env) (h : Hp) : Op → Option (Val × Hp)
  | .move x | .assign x => (evO env x).map fun v => (v, h)
  | .pick c a b => (evO env c).bind fun | .b true => (evO env a).map fun v => (v, h) | .b false => (evO env b).map fun v => (v, h) | _ => none
  | .alloc e => (zeroV P e).bind fun v => allocV h v.cells.length v.cells
  | .box e x => (evO env x).bind fun v => allocV h v.cells.length v.cells
  | .build t ps => (evP env ps.toList).bind fun ps => (buildV P t ps).map fun v => (v, h)
  | .buildSlice t n ps => (evP env ps.toList).bind fun ps => buildSliceV P h t n ps
  | .load t a => (evO env a).bind fun a => (ldV P h t a).map fun v => (v, h)
  | .store t a x => (evO env a).bind fun a => (evO env x).bind fun x => (stV P h t a x).map fun h => (.no, h)
  | .nilCheck x => (evO env x).bind fun | .p none => none | .nf => none | .un => none | v => some (v, h)
  | .binOp op t x y _ => (evO env x).bind fun x => (evO env y).bind fun y => (binV P op t x y).map fun v => (v, h)
  | .unOp op _ x => (evO env x).bind fun x => (unV op x).map fun v => (v, h)
  | .convert s d x => (evO env x).bind fun x => convV P h s d x
  | .sliceToArrayPointer t x => (evO env x).bind fun | .sl (some a) n _ => (match P.underlying t with | some (.array k _) => if k ≤ n then some (.p (some a), h) else none | _ => none) | _ => none
  | .makeFunc (.func f) first caps => if first.size = 0 then (evL env caps.toList).map fun l => (.f f l, h) else none
  | .makeMap t r => match r with
    | none => some (.m (some h.next), h.new (.map 0 []))
    | some x => (evO env x).bind fun v => match P.underlying t, v with | some (.map _ _), .i _ _ => some (.m (some h.next), h.new (.map 0 [])) | _, _ => none
  | .makeSlice t l c => (evO env l).bind fun l => (evO env c).bind fun c => makeSliceV P h t l c
  | .slice t x lo hi mx => (evO env x).bind fun x => (evQ env lo).bind fun lo => (evQ env hi).bind fun hi => (evQ env mx).bind fun mx => (sliceV P t x lo hi mx).map fun v => (v, h)
  | .fieldAddr s x f => (evO env x).bind fun | .p (some (b, o)) => ((fldT P s f).bind fun q => (sz P q.type).bind fun n => if 0 < n then some (.p (some (b, o + q.offset)), h) else none) | _ => none
  | .field s x f => (evO env x).bind fun | .agg cs => ((fldT P s f).bind fun q => (partV P q.type cs q.offset).map fun v => (v, h)) | _ => none
  | .indexAddr t x i => (evO env x).bind fun x => (evO env i).bind fun i => (idxA P t x i).map fun v => (v, h)
  | .index t x i => (evO env x).bind fun x => (evO env i).bind fun i => (idxV P t x i).map fun v => (v, h)
  | .lookup t m k ok => (evO env m).bind fun m => (evO env k).bind fun k => (lookV P h t m k ok).map fun v => (v, h)
  | .mapUpdate t m k x | .insert t m k x => (evO env m).bind fun m => (evO env k).bind fun k => (evO env x).bind fun x => (mapUpdV P h t m k x).map fun h => (.no, h)
  | .mapEntry t m k => (evO env m).bind fun m => (evO env k).bind fun k => mapEntV P h t m k
  | .entryStore _ m s x => (evO env m).bind fun m => (evO env s).bind fun s => (evO env x).bind fun x => (mapPutV h m s x).map fun h => (.no, h)
  | .extract x i => (evO env x).bind fun | .tup vs => (vs[i]?).map fun v => (v, h) | _ => none
  | .call { callee := .builtin b, args, argTypes } => (evL env args.toList).bind fun l => bltV P h b argTypes.toList l
  | _ => none
def tgt (env : Env) : Op → Option (FuncId × List Val)
  | .call { callee := .value f, args, .. } => (evO env f).bind fun | .f g caps => (evL env args.toList).map fun l => (g, l ++ caps) | _ => none
  | _ => none
end Go.V
namespace Go.V
set_option linter.unusedVariables false
set_option linter.unusedSectionVars false
set_option linter.unusedSimpArgs false
inductive Ex where
  | nrm
  | ext (id : Nat)
  | ret
inductive OpK where
  | pure | read | alloc | eff
  deriving DecidableEq
def convK (P : Program) (s d : TypeId) : OpK := match P.underlying s, P.underlying d with
  | some .string, some (.slice _) => .alloc
  | some (.slice _), some (.slice _) => .eff
  | some (.slice _), some .string => .read
  | _, _ => .pure
def lenK (P : Program) : List TypeId → OpK
  | t :: _ => match P.underlying t with
    | some (.map _ _) => .read
    | _ => .pure
  | [] => .pure
def kindOf (P : Program) : Op → OpK
  | .load .. | .lookup .. => .read
  | .alloc .. | .box .. | .buildSlice .. | .makeMap .. | .makeSlice .. => .alloc
  | .convert s d _ => convK P s d
  | .call { callee := .builtin .len, argTypes, .. } => lenK P argTypes.toList
  | .call { callee := .builtin .cap, .. } | .call { callee := .builtin .max, .. } | .call { callee := .builtin .min, .. } => .pure
  | .store .. | .mapUpdate .. | .call .. => .eff
  | .move .. | .assign .. | .pick .. | .build .. | .nilCheck .. | .binOp .. | .unOp .. | .sliceToArrayPointer .. | .makeFunc .. | .fieldAddr .. | .field .. | .indexAddr .. | .index .. | .extract .. | .slice .. => .pure
  | _ => .eff
def ancs : List Oper → List Nat → List Nat
  | [], acc => acc
  | o :: r, acc => ancs r (acc ++ [o.after.toList.foldl (fun s e => if Region.binds .any e then s ||| 2 ^ e.on ||| acc.getD e.on 0 else s) 0])
def opAt (A : List Oper) (i : Nat) : Oper := A.getD i ⟨none, .panic (.func 0), 0, "", #[], none⟩
def looks (A : List Oper) (o : Oper) : List Tmp :=
  (o.op.operands.toList.filterMap fun | .tmp t => some t | _ => none) ++ (match o.guard with | some (g, _) => ((A[g]?).bind (·.dst)).toList | none => [])
def okGo (P : Program) (A : List Oper) (an : List Nat) : List Nat → List Nat → Bool
  | _, [] => true
  | done, i :: rest => !done.contains i && !rest.contains i && Nat.blt i A.length &&
      ((opAt A i).after.toList.all fun e => !Region.binds .any e || done.contains e.on) &&
      (match (opAt A i).guard with | some (g, _) => done.contains g && (an.getD i 0).testBit g | none => true) &&
      (!decide (kindOf P (opAt A i).op = .eff) || rest.all fun r => (an.getD r 0).testBit i) &&
      (match (opAt A i).dst with
        | some d => !(looks A (opAt A i)).contains d && (rest ++ done).all fun j => (opAt A j).dst != some d && (!(looks A (opAt A j)).contains d || (an.getD j 0).testBit i || (an.getD i 0).testBit j)
        | none => true) &&
      okGo P A an (i :: done) rest
def okL (P : Program) (A : List Oper) (L : List Nat) : Bool := (List.range A.length).all (fun i => L.contains i) && okGo P A (ancs A []) [] L
structure Pend where
  idx : Nat
  op : Op
  env : Env
  v : Val
inductive Job where
  | code (n : Nat) (c : Code) (env : Env) (h : Hp)
  | ops (n : Nat) (A : List Oper) (dr : Bool) (L : List Nat) (pd : List Pend) (env : Env) (h : Hp)
  | call (f : FuncId) (args : List Val) (h : Hp)
inductive Out where
  | code (e : Ex) (env : Env) (h : Hp)
  | call (v : Val) (h : Hp)
def putO (env : Env) (d : Option Tmp) (v : Val) : Env := match d with
  | some d => env.set d v
  | none => env
def wantO (A : List Oper) (env : Env) (o : Oper) : Option Bool := match o.guard with
  | none => some true
  | some (j, want) => match ((A[j]?).bind (·.dst)).bind env.get with
    | some (.b x) => some (x == want)
    | some (.tup []) => some false
    | _ => none
def dstOk (n : Nat) (A : List Oper) : Bool := A.all fun o => match o.dst with
  | some d => Nat.blt d n
  | none => true
def Stays (P : Program) (A : List Oper) (dr : Bool) (i : Nat) (pd : List Pend) (h : Hp) : Prop :=
  dr = true → ∀ q, q ∈ pd → ((ancs A []).getD i 0).testBit q.idx = false → op1 P q.env h q.op = some (q.v, h)
def pdPut (P : Program) (A : List Oper) (i : Nat) (env : Env) (v : Val) (pd : List Pend) : List Pend :=
  if kindOf P (opAt A i).op = .read then ⟨i, (opAt A i).op, env, v⟩ :: pd else pd
def argE : Nat → List Val → Env → Env
  | _, [], env => env
  | i, v :: r, env => argE (i + 1) r (env.set i v)
def resV (P : Program) (env : Env) (h : Hp) : List ResultVar → Option (List Val)
  | [] => some []
  | .tmp t :: r => (env.get t).bind fun v => (resV P env h r).map (v :: ·)
  | .cell a t :: r => (env.get a).bind fun p => (ldV P h t p).bind fun v => (resV P env h r).map (v :: ·)
def oneV : List Val → Val
  | [v] => v
  | vs => .tup vs
abbrev Tb := FuncId → List Val → Hp → (Val → Hp → Prop) → Prop
def chA0 (ti : TypeId) : List Oper := [⟨some 4, .assign (.const (.int .i64 0)), ti, "iter.go:103", #[], none⟩]
def chA1 (T ti tb : TypeId) : List Oper := [⟨some 6, .move (.tmp 4), ti, "iter.go:103", #[], none⟩, ⟨some 7, .load T (.tmp 1), T, "iter.go:103", #[], none⟩,
  ⟨some 8, .call ⟨.builtin .len, #[.tmp 7], #[T]⟩, ti, "iter.go:103", #[⟨1, .data⟩], none⟩, ⟨some 9, .binOp .lss ti (.tmp 6) (.tmp 8) ti, tb, "iter.go:103", #[⟨0, .data⟩, ⟨2, .data⟩], none⟩]
def chA3 (T ti : TypeId) : List Oper := [⟨some 13, .load ti (.tmp 2), ti, "iter.go:105", #[], none⟩, ⟨some 14, .load T (.tmp 1), T, "iter.go:105", #[], none⟩, ⟨some 15, .move (.tmp 4), ti, "iter.go:105", #[], none⟩,
  ⟨some 16, .slice T (.tmp 14) (some (.tmp 15)) none none, T, "iter.go:105", #[⟨1, .data⟩, ⟨2, .data⟩], none⟩, ⟨some 17, .call ⟨.builtin .len, #[.tmp 16], #[T]⟩, ti, "iter.go:105", #[⟨3, .data⟩], none⟩,
  ⟨some 18, .call ⟨.builtin .min, #[.tmp 13, .tmp 17], #[ti, ti]⟩, ti, "iter.go:105", #[⟨0, .data⟩, ⟨4, .data⟩], none⟩,
  ⟨some 5, .assign (.tmp 18), ti, "iter.go:105", #[⟨5, .data⟩, ⟨0, .phase⟩, ⟨1, .phase⟩, ⟨2, .phase⟩, ⟨3, .phase⟩, ⟨4, .phase⟩, ⟨5, .phase⟩], none⟩]
def chA4 (T ti tb ty : TypeId) : List Oper := [⟨some 19, .move (.tmp 0), ty, "iter.go:109", #[], none⟩, ⟨some 20, .load T (.tmp 1), T, "iter.go:109", #[], none⟩, ⟨some 21, .move (.tmp 4), ti, "iter.go:109", #[], none⟩,
  ⟨some 22, .move (.tmp 4), ti, "iter.go:109", #[], none⟩, ⟨some 23, .move (.tmp 5), ti, "iter.go:109", #[], none⟩, ⟨some 24, .binOp .add ti (.tmp 22) (.tmp 23) ti, ti, "iter.go:109", #[⟨3, .data⟩, ⟨4, .data⟩], none⟩,
  ⟨some 25, .move (.tmp 4), ti, "iter.go:109", #[], none⟩, ⟨some 26, .move (.tmp 5), ti, "iter.go:109", #[], none⟩, ⟨some 27, .binOp .add ti (.tmp 25) (.tmp 26) ti, ti, "iter.go:109", #[⟨6, .data⟩, ⟨7, .data⟩], none⟩,
  ⟨some 28, .slice T (.tmp 20) (some (.tmp 21)) (some (.tmp 24)) (some (.tmp 27)), T, "iter.go:109", #[⟨1, .data⟩, ⟨2, .data⟩, ⟨5, .data⟩, ⟨8, .data⟩], none⟩,
  ⟨some 29, .call ⟨.value (.tmp 19), #[.tmp 28], #[T]⟩, tb, "iter.go:109", #[⟨0, .data⟩, ⟨9, .data⟩], none⟩, ⟨some 30, .unOp .not tb (.tmp 29), tb, "iter.go:109", #[⟨10, .data⟩], none⟩]
def chA2 (ti : TypeId) : List Oper := [⟨some 10, .move (.tmp 4), ti, "iter.go:103", #[], none⟩, ⟨some 11, .load ti (.tmp 2), ti, "iter.go:103", #[], none⟩,
  ⟨some 12, .binOp .add ti (.tmp 10) (.tmp 11) ti, ti, "iter.go:103", #[⟨0, .data⟩, ⟨1, .data⟩], none⟩, ⟨some 4, .assign (.tmp 12), ti, "iter.go:103", #[⟨2, .data⟩, ⟨0, .phase⟩, ⟨1, .phase⟩, ⟨2, .phase⟩], none⟩]
def chBody (T ti tb ty : TypeId) : Code := .seq (.seq (.region 1 (chA1 T ti tb).toArray false) (.cond (.tmp 9) .skip (.exit 0)))
  (.seq (.block 1 (.seq (.region 3 (chA3 T ti).toArray true) (.seq (.region 4 (chA4 T ti tb ty).toArray false) (.cond (.tmp 30) .ret .skip)))) (.region 2 (chA2 ti).toArray false))
def chCode (T ti tb ty : TypeId) : Code := .seq (.region 0 (chA0 ti).toArray false) (.block 0 (.loop (chBody T ti tb ty)))
structure Chunk (P : Program) (fid : FuncId) (T ti tb ty : TypeId) : Prop where
  fn : ∃ fn : Func, P.funcs[fid]? = some fn ∧ fn.body = some (chCode T ti tb ty) ∧ fn.ntmps = 31 ∧ fn.results = #[] ∧ fn.name ≠ "runtime.NumGoroutine"
  row : ∃ e, P.underlying T = some (.slice e)
  szT : sz P T = some 1
  int : P.underlying ti = some (.int .i64)
  szI : sz P ti = some 1
  fol : P.follows .mixedOrders = true
  ok : okL P (chA3 T ti) (List.range 7) = true
def lenR : Val → Option Nat
  | .sl _ n _ => some n
  | .es => some 0
  | _ => none
def chE (l bs os bn on : Nat) (i : Nat) : Env := (((T.lf.set 0 (.yl l)).set 1 (.p (some (bs, os)))).set 2 (.p (some (bn, on)))).set 4 (.i .i64 i)
inductive XW (P : Program) (K : Tb) : Job → (Out → Prop) → Prop where
  | skip {n env h Q} : Q (.code .nrm env h) → XW P K (.code n .skip env h) Q
  | label {n i env h Q} : Q (.code .nrm env h) → XW P K (.code n (.label i) env h) Q
  | exit {n i env h Q} : Q (.code (.ext i) env h) → XW P K (.code n (.exit i) env h) Q
  | ret {n env h Q} : Q (.code .ret env h) → XW P K (.code n .ret env h) Q
  | seq {n a b env h M Q} : XW P K (.code n a env h) M → (∀ env' h', M (.code .nrm env' h') → XW P K (.code n b env' h') Q) → (∀ e env' h', e ≠ .nrm → M (.code e env' h') → Q (.code e env' h')) → XW P K (.code n (.seq a b) env h) Q
  | cond {n} {x : Operand} {a b env h Q} {t : Bool} : evO env x = some (.b t) → XW P K (.code n (bif t then a else b) env h) Q → XW P K (.code n (.cond x a b) env h) Q
  | block {n id a env h M Q} : XW P K (.code n a env h) M → (∀ e env' h', M (.code e env' h') → Q (.code (match e with | .ext i => if i = id then .nrm else .ext i | e => e) env' h')) → XW P K (.code n (.block id a) env h) Q
  | loop {n a env h M Q} : XW P K (.code n a env h) M → (∀ env' h', M (.code .nrm env' h') → XW P K (.code n (.loop a) env' h') Q) → (∀ e env' h', e ≠ .nrm → M (.code e env' h') → Q (.code e env' h')) → XW P K (.code n (.loop a) env h) Q
  | region {n} {id : Nat} {A : List Oper} {dr : Bool} {L : List Nat} {env h Q} : dstOk n A = true → (if dr then P.follows .mixedOrders = true ∧ okL P A L = true else L = List.range A.length) → XW P K (.ops n A dr L [] env h) Q → XW P K (.code n (.region id A.toArray dr) env h) Q
  | onil {n A dr pd env h Q} : Q (.code .nrm env h) → XW P K (.ops n A dr [] pd env h) Q
  | onot {n} {A : List Oper} {dr : Bool} {i : Nat} {L : List Nat} {pd env h Q} : i < A.length → wantO A env (opAt A i) = some false → XW P K (.ops n A dr L pd (putO env (opAt A i).dst .no) h) Q → XW P K (.ops n A dr (i :: L) pd env h) Q
  | oone {n} {A : List Oper} {dr : Bool} {i : Nat} {L : List Nat} {pd env h Q v h'} : i < A.length → wantO A env (opAt A i) = some true → op1 P env h (opAt A i).op = some (v, h') → (kindOf P (opAt A i).op = .eff → Stays P A dr i pd h') →
      XW P K (.ops n A dr L (pdPut P A i env v pd) (putO env (opAt A i).dst v) h') Q → XW P K (.ops n A dr (i :: L) pd env h) Q
  | ocall {n} {A : List Oper} {dr : Bool} {i : Nat} {L : List Nat} {pd env h M Q f args} : i < A.length → wantO A env (opAt A i) = some true → tgt env (opAt A i).op = some (f, args) → XW P K (.call f args h) M →
      (∀ v h', M (.call v h') → Stays P A dr i pd h') → (∀ v h', M (.call v h') → XW P K (.ops n A dr L pd (putO env (opAt A i).dst v) h') Q) → XW P K (.ops n A dr (i :: L) pd env h) Q
  | call {f args h M Q} {fn : Func} {c : Code} : P.funcs[f]? = some fn → fn.body = some c → fn.name ≠ "runtime.NumGoroutine" → args.length ≤ fn.ntmps → XW P K (.code fn.ntmps c (argE 0 args .lf) h) M →
      (∀ e env' h', M (.code e env' h') → (e = .nrm ∨ e = .ret) ∧ ∃ vs, resV P env' h' fn.results.toList = some vs ∧ Q (.call (oneV vs) h')) → XW P K (.call f args h) Q
  | range {n : Nat} {g : Operand} {p : Tmp} {as bd : Code} {env h Q} {fid : FuncId} {bs os bn on N L : Nat} {T ti tb ty : TypeId} {sv : Val} (pc : Nat → Val) (M : Nat → Hp → Prop) (A : Nat → Env → Hp → Prop) : evO env g = some (.f fid [.p (some (bs, os)), .p (some (bn, on))]) → Chunk P fid T ti tb ty →
      0 < N → N ≤ 2 ^ 40 → L ≤ 2 ^ 40 → lenR sv = some L → M 0 h → (∀ i h1, M i h1 → rd h1 bs os 1 = some [sv] ∧ rd h1 bn on 1 = some [.i .i64 N]) →
      (∀ i h1, M i h1 → i < L → ∀ l, XW P K (.ops 31 (chA3 T ti) true (List.range 7) [] (chE l bs os bn on i) h1) fun o => ∃ E, o = .code .nrm E h1 ∧ (∀ t v, (chE l bs os bn on i).get t = some v → E.get t = some v) ∧ E.get 5 = some (.i .i64 (min N (L - i) : Nat))) →
      (∀ i h1, M i h1 → i < L → sliceV P T sv (some (.i .i64 i)) (some (.i .i64 (i + min N (L - i) : Nat))) (some (.i .i64 (i + min N (L - i) : Nat))) = some (pc i)) →
      (∀ i h1, M i h1 → i < L → XW P K (.code n as (env.set p (pc i)) h1) fun o => ∃ env' h2, o = .code .nrm env' h2 ∧ A i env' h2) →
      (∀ i env1 h1, i < L → A i env1 h1 → XW P K (.code n bd env1 h1) fun o => ∃ x env' h2, o = .code x env' h2 ∧ (x = .nrm → M (i + N) h2) ∧ (x ≠ .nrm → Q (.code x env h2))) →
      (∀ i h1, M i h1 → L ≤ i → Q (.code .nrm env h1)) → p < n → XW P K (.code n (.rangeFunc g #[p] as bd) env h) Q
  | known {f args h M Q} : K f args h M → (∀ v h', M v h' → Q (.call v h')) → XW P K (.call f args h) Q
theorem XW.mono {P : Program} {K : Tb} {j : Job} {Q Q' : Out → Prop} (h : XW P K j Q) (hq : ∀ o, Q o → Q' o) : XW P K j Q' := by
  induction h generalizing Q' with
  | skip h => exact .skip (hq _ h)
  | label h => exact .label (hq _ h)
  | exit h => exact .exit (hq _ h)
  | ret h => exact .ret (hq _ h)
  | seq h1 h2 h3 ih1 ih2 => exact .seq h1 (fun e h m => ih2 e h m hq) fun e env h ne m => hq _ (h3 e env h ne m)
  | cond h1 _ ih => exact .cond h1 (ih hq)
  | block h1 h2 => exact .block h1 fun e env h m => hq _ (h2 e env h m)
  | loop h1 h2 h3 ih1 ih2 => exact .loop h1 (fun e h m => ih2 e h m hq) fun e env h ne m => hq _ (h3 e env h ne m)
  | region h0 h1 _ ih => exact .region h0 h1 (ih hq)
  | onil h => exact .onil (hq _ h)
  | onot h1 h2 _ ih => exact .onot h1 h2 (ih hq)
  | oone h1 h2 h3 h4 _ ih => exact .oone h1 h2 h3 h4 (ih hq)
  | ocall h1 h2 h3 h4 h5 _ ih1 ih2 => exact .ocall h1 h2 h3 h4 h5 fun v h m => ih2 v h m hq
  | call h1 h2 h3 h4 h5 h6 => exact .call h1 h2 h3 h4 h5 fun e env h m => by obtain ⟨g, vs, r, q⟩ := h6 e env h m; exact ⟨g, vs, r, hq _ q⟩
  | range pc M A h1 h2 h3 h4 h5 h6 h7 h8 h9 h10 h11 h12 h13 h14 ih1 ih2 ih3 => exact .range pc M A h1 h2 h3 h4 h5 h6 h7 h8 h9 h10 h11 (fun i e h1 hl m => ih3 i e h1 hl m fun o ⟨x, e, h2, q1, q2, q3⟩ => ⟨x, e, h2, q1, q2, fun ne => hq _ (q3 ne)⟩) (fun i h1 m hl => hq _ (h13 i h1 m hl)) h14
  | known h1 h2 => exact .known h1 fun v h m => hq _ (h2 v h m)
end Go.V
namespace Go.V
set_option linter.unusedVariables false
set_option linter.unusedSectionVars false
set_option linter.unusedSimpArgs false
structure Info where
  g : Nat
  base : Nat
  z : Nat
  n : Nat
  N : Nat
abbrev Ren := Nat → Option Info
class Sy where
  v : Nat → Int
variable [Sy]
def strVal' (l : List UInt8) : Value := .string ⟨l.toArray⟩
inductive VR (ρ : Ren) : Val → Value → Prop where
  | b (x : Bool) : VR ρ (.b x) (.bool x)
  | i (k : IntKind) (n : Int) : VR ρ (.i k n) (.int k n)
  | s (x : List UInt8) : VR ρ (.s x) (strVal' x)
  | pn : VR ρ (.p none) (.pointer none)
  | p {b o : Nat} {i : Info} : ρ b = some i → VR ρ (.p (some (b, o))) (.pointer (some ⟨i.g, i.base + o, none⟩))
  | sn : VR ρ (.sl none 0 (.k 0)) (.slice none 0 0)
  | sk {b o len k : Nat} {i : Info} : ρ b = some i → len ≤ k → VR ρ (.sl (some (b, o)) len (.k k)) (.slice (some ⟨i.g, i.base + o, none⟩) len k)
  | so {b o len m c : Nat} {i : Info} : ρ b = some i → len ≤ m → m ≤ c → i.n ≤ o + c * i.z → i.base + o + c * i.z ≤ i.N → VR ρ (.sl (some (b, o)) len (.op i.z m)) (.slice (some ⟨i.g, i.base + o, none⟩) len c)
  | es {a : Addr} {c : Nat} : VR ρ .es (.slice (some a) 0 c)
  | mn : VR ρ (.m none) (.map none)
  | m {r : Nat} {i : Info} : ρ r = some i → VR ρ (.m (some r)) (.map (some i.g))
  | f {fn : FuncId} {cs : List Val} {vs : List Value} : cs.length = vs.length → (∀ (j : Nat) (u : Val) (u' : Value), cs[j]? = some u → vs[j]? = some u' → VR ρ u u') → VR ρ (.f fn cs) (.func (.func fn) #[] vs.toArray)
  | nf : VR ρ .nf .nilFunc
  | un {u : Value} : u.oneCell' = true → VR ρ .un u
  | y {k : IntKind} {j : Nat} {lo hi : Int} : lo ≤ Sy.v j → Sy.v j ≤ hi → VR ρ (.y k j lo hi) (.int k (Sy.v j))
  | yl {l : Nat} : VR ρ (.yl l) (.func (.yield l) #[] #[])
  | agg {cs : List Val} {vs : List Value} : cs.length = vs.length → (∀ (j : Nat) (u : Val) (u' : Value), cs[j]? = some u → vs[j]? = some u' → VR ρ u u') → VR ρ (.agg cs) (.agg vs.toArray)
  | tup {cs : List Val} {vs : List Value} : cs.length = vs.length → (∀ (j : Nat) (u : Val) (u' : Value), cs[j]? = some u → vs[j]? = some u' → VR ρ u u') → VR ρ (.tup cs) (.tuple vs.toArray)
def Ren.le (ρ σ : Ren) : Prop := ∀ b i, ρ b = some i → σ b = some i
theorem Ren.le.refl (ρ : Ren) : ρ.le ρ := fun _ _ h => h
theorem Ren.le.trans {ρ σ τ : Ren} (a : ρ.le σ) (b : σ.le τ) : ρ.le τ := fun x i h => b x i (a x i h)
theorem VR.mono {ρ σ : Ren} (l : ρ.le σ) {v : Val} {u : Value} (h : VR ρ v u) : VR σ v u := by
  induction h with
  | b x => exact .b x
  | i k n => exact .i k n
  | s x => exact .s x
  | pn => exact .pn
  | p h => exact .p (l _ _ h)
  | sn => exact .sn
  | sk h h2 => exact .sk (l _ _ h) h2
  | so h h2 h3 h4 h5 => exact .so (l _ _ h) h2 h3 h4 h5
  | es => exact .es
  | mn => exact .mn
  | m h => exact .m (l _ _ h)
  | f h _ ih => exact .f h ih
  | nf => exact .nf
  | un h => exact .un h
  | y h h2 => exact .y h h2
  | yl => exact .yl
  | agg h _ ih => exact .agg h ih
  | tup h _ ih => exact .tup h ih
def VRL (ρ : Ren) (cs : List Val) (vs : List Value) : Prop := cs.length = vs.length ∧ ∀ (j : Nat) (u : Val) (u' : Value), cs[j]? = some u → vs[j]? = some u' → VR ρ u u'
theorem VRL.mono {ρ σ : Ren} (l : ρ.le σ) {cs vs} (h : VRL ρ cs vs) : VRL σ cs vs := ⟨h.1, fun j u u' a b => (h.2 j u u' a b).mono l⟩
theorem VRL.nil {ρ : Ren} : VRL ρ [] [] := ⟨rfl, fun j u u' h => by simp at h⟩
theorem VRL.cons {ρ : Ren} {c v cs vs} (h : VR ρ c v) (hs : VRL ρ cs vs) : VRL ρ (c :: cs) (v :: vs) := ⟨by simp [hs.1], fun j u u' a b => by
  cases j with
  | zero => simp at a b; subst a; subst b; exact h
  | succ j => exact hs.2 j u u' (by simpa using a) (by simpa using b)⟩
theorem VRL.head {ρ : Ren} {c v cs vs} (h : VRL ρ (c :: cs) (v :: vs)) : VR ρ c v := h.2 0 c v rfl rfl
theorem VRL.tail {ρ : Ren} {c v cs vs} (h : VRL ρ (c :: cs) (v :: vs)) : VRL ρ cs vs := ⟨by simpa using h.1, fun j u u' a b => h.2 (j + 1) u u' (by simpa using a) (by simpa using b)⟩
theorem VRL.at {ρ : Ren} {cs vs} (h : VRL ρ cs vs) {j : Nat} {u : Val} (hj : cs[j]? = some u) : ∃ u', vs[j]? = some u' ∧ VR ρ u u' := by
  have hl := (List.getElem?_eq_some_iff.1 hj).1
  have h2 := List.getElem?_eq_getElem (l := vs) (i := j) (by rw [← h.1]; exact hl)
  exact ⟨_, h2, h.2 j u _ hj h2⟩
theorem VRL.append {ρ : Ren} {cs ds vs us} (h : VRL ρ cs vs) (k : VRL ρ ds us) : VRL ρ (cs ++ ds) (vs ++ us) := ⟨by simp [h.1, k.1], fun j u u' a b => by
  by_cases hj : j < cs.length
  · rw [List.getElem?_append_left hj] at a; rw [List.getElem?_append_left (by rw [← h.1]; exact hj)] at b; exact h.2 j u u' a b
  · rw [List.getElem?_append_right (by omega)] at a; rw [List.getElem?_append_right (by rw [← h.1]; omega)] at b
    rw [← h.1] at b
    exact k.2 _ u u' a b⟩
theorem VRL.drop {ρ : Ren} {cs vs} (h : VRL ρ cs vs) (n : Nat) : VRL ρ (cs.drop n) (vs.drop n) := ⟨by simp [h.1], fun j u u' a b => h.2 (n + j) u u' (by simpa [List.getElem?_drop] using a) (by simpa [List.getElem?_drop] using b)⟩
theorem VRL.take {ρ : Ren} {cs vs} (h : VRL ρ cs vs) (n : Nat) : VRL ρ (cs.take n) (vs.take n) := ⟨by simp [h.1], fun j u u' a b => by
  rw [List.getElem?_take] at a b
  split at a
  · rw [if_pos (by assumption)] at b; exact h.2 j u u' a b
  · cases a⟩
theorem VRL.getL {ρ : Ren} : ∀ {cs : List Val} {f : Nat → Option Value}, (∀ j u, cs[j]? = some u → ∃ u', f j = some u' ∧ VR ρ u u') → ∃ vs, VRL ρ cs vs ∧ ∀ j u', vs[j]? = some u' → f j = some u'
  | [], f, h => ⟨[], VRL.nil, fun j u' h => by simp at h⟩
  | c :: cs, f, h => by
    obtain ⟨v, h1, h2⟩ := h 0 c rfl
    obtain ⟨vs, h3, h4⟩ := VRL.getL (cs := cs) (f := fun j => f (j + 1)) fun j u hj => h (j + 1) u (by simpa using hj)
    exact ⟨v :: vs, h3.cons h2, fun j u' hj => by cases j with | zero => simp at hj; subst hj; exact h1 | succ j => exact h4 j u' (by simpa using hj)⟩
theorem cells_un {u : Value} (h : u.oneCell' = true) : u.cells.toList = [u] := by
  cases u <;> first | rfl | (simp [Value.oneCell'] at h)
theorem VR.cells {ρ : Ren} {v : Val} {u : Value} (h : VR ρ v u) : VRL ρ v.cells u.cells.toList := by
  cases h with
  | agg h1 h2 => exact ⟨by simpa [Val.cells, Value.cells] using h1, fun j u u' a b => h2 j u u' a (by simpa [Value.cells] using b)⟩
  | b x => exact VRL.nil.cons (.b x)
  | i k n => exact VRL.nil.cons (.i k n)
  | s x => exact VRL.nil.cons (.s x)
  | pn => exact VRL.nil.cons .pn
  | p h => exact VRL.nil.cons (.p h)
  | sn => exact VRL.nil.cons .sn
  | sk h h2 => exact VRL.nil.cons (.sk h h2)
  | so h h2 h3 h4 h5 => exact VRL.nil.cons (.so h h2 h3 h4 h5)
  | es => exact VRL.nil.cons .es
  | mn => exact VRL.nil.cons .mn
  | m h => exact VRL.nil.cons (.m h)
  | f h1 h2 => exact VRL.nil.cons (.f h1 h2)
  | nf => exact VRL.nil.cons .nf
  | un h => rw [cells_un h]; exact VRL.nil.cons (.un h)
  | y h h2 => exact VRL.nil.cons (.y h h2)
  | yl => exact VRL.nil.cons .yl
  | tup h1 h2 => exact VRL.nil.cons (.tup h1 h2)
theorem VR.oneCell {ρ : Ren} {v : Val} {u : Value} (h : VR ρ v u) (h1 : v.one = true) : u.oneCell' = true := by
  cases h <;> first | rfl | assumption | (simp [Val.one] at h1)
theorem VRL.one {ρ : Ren} {cs vs} (h : VRL ρ cs vs) (h1 : cs.all Val.one = true) : ∀ u ∈ vs, u.oneCell' = true := by
  intro u hu
  obtain ⟨j, hj, rfl⟩ := List.getElem_of_mem hu
  have hc : cs[j]? = some (cs[j]'(by rw [h.1]; exact hj)) := List.getElem?_eq_getElem _
  exact (h.2 j _ _ hc (List.getElem?_eq_getElem hj)).oneCell (List.all_eq_true.1 h1 _ (List.getElem_mem _))
def Fz (z : Nat) (w : World) (g : Nat) : Prop := (∀ c e fz, w.heap[g]? = some (.cells c e fz) → fz.1 ≤ fz.2) ∧ (∀ o u, w.cell? ⟨g, o, none⟩ = some u → u.oneCell' = true) ∧ (z ≠ 1 → ∀ c e fz, w.heap[g]? = some (.cells c e fz) → fz.2 ≤ fz.1)
def BlkR (ρ : Ren) (i : Info) (w : World) : Blk → Prop
  | .cells z c => i.z = z ∧ i.n = c.length ∧ i.base + i.n ≤ i.N ∧ c.all Val.one = true ∧ ((∀ o, o < i.N → (w.cell? ⟨i.g, o, none⟩).isSome = true ∧ w.frozen? ⟨i.g, o, none⟩ = false) ∧ Fz z w i.g) ∧
      ∀ j u, c[j]? = some u → ∃ u', w.cell? ⟨i.g, i.base + j, none⟩ = some u' ∧ VR ρ u u'
  | .ro c => c.all Val.one = true ∧ ∀ j u, c[j]? = some u → ∃ u', w.cell? ⟨i.g, i.base + j, none⟩ = some u' ∧ VR ρ u u'
  | .map ck es => ∃ (en : Array MapEntry), w.heap[i.g]? = some (.map en ck) ∧ en.size = es.length ∧ ∀ (j c : Nat) (k v : Val), es[j]? = some (c, k, v) → ∃ e : MapEntry, en[j]? = some e ∧ e.born = c ∧ VR ρ k e.key ∧ VR ρ v e.val
  | .dead => True
@[simp] def Blk.liveB : Blk → Bool
  | .cells .. => true
  | .ro _ => true
  | .map _ _ => true
  | .dead => false
@[simp] def Blk.ownB : Blk → Bool
  | .cells .. => true
  | .ro _ => false
  | .map _ _ => true
  | .dead => false
def has (p : Blk → Bool) (h : Hp) (b : Nat) : Prop := ∃ B, h.get b = some B ∧ p B = true
abbrev live (h : Hp) (b : Nat) : Prop := has Blk.liveB h b
abbrev own (h : Hp) (b : Nat) : Prop := has Blk.ownB h b
theorem own.live {h : Hp} {b : Nat} (q : own h b) : live h b := by
  obtain ⟨B, q1, q2⟩ := q
  refine ⟨B, q1, ?_⟩
  cases B <;> simp at q2 ⊢
structure Rel (ρ : Ren) (h : Hp) (w : World) : Prop where
  dom : ∀ b i, ρ b = some i → b < h.next ∧ i.g < w.heap.size
  blk : ∀ b i B, ρ b = some i → h.get b = some B → BlkR ρ i w B
  inj : ∀ b b' i i', ρ b = some i → ρ b' = some i' → live h b → own h b' → i.g = i'.g → b = b'
  wf : ∀ b, h.next ≤ b → h.get b = none
structure Ext (ρ : Ren) (h : Hp) (w : World) (ρ' : Ren) (h' : Hp) (w' : World) : Prop where
  le : ρ.le ρ'
  next : h.next ≤ h'.next
  other : ∀ b, ρ b = none → b < h.next → ρ' b = none ∧ h'.get b = h.get b
  size : w.heap.size ≤ w'.heap.size
  frame : ∀ g, g < w.heap.size → (∀ b i, ρ b = some i → own h b → i.g ≠ g) → w'.heap[g]? = w.heap[g]? ∧ ∀ b i, ρ' b = some i → own h' b → i.g ≠ g
  os : w'.os = w.os
  tape : w'.tape = w.tape
  output : w'.output = w.output
  drawn : w.drawn ≤ w'.drawn
theorem Ext.refl (ρ : Ren) (h : Hp) (w : World) : Ext ρ h w ρ h w := ⟨Ren.le.refl _, Nat.le_refl _, fun b hb _ => ⟨hb, rfl⟩, Nat.le_refl _, fun g _ hg => ⟨rfl, hg⟩, rfl, rfl, rfl, Nat.le_refl _⟩
theorem Ext.trans {ρ h w ρ1 h1 w1 ρ2 h2 w2} (a : Ext ρ h w ρ1 h1 w1) (b : Ext ρ1 h1 w1 ρ2 h2 w2) : Ext ρ h w ρ2 h2 w2 :=
  ⟨a.le.trans b.le, Nat.le_trans a.next b.next, fun x hx hl => by
      obtain ⟨p, q⟩ := a.other x hx hl
      obtain ⟨p', q'⟩ := b.other x p (Nat.lt_of_lt_of_le hl a.next)
      exact ⟨p', q'.trans q⟩,
    Nat.le_trans a.size b.size, fun g hg hn => by
      obtain ⟨p, q⟩ := a.frame g hg hn
      obtain ⟨p', q'⟩ := b.frame g (Nat.lt_of_lt_of_le hg a.size) q
      exact ⟨p'.trans p, q'⟩, b.os.trans a.os, b.tape.trans a.tape, b.output.trans a.output, Nat.le_trans a.drawn b.drawn⟩
theorem Rel.drew {ρ h w} (r : Rel ρ h w) : Rel ρ h w.drew := ⟨fun b i e => r.dom b i e, fun b i B e f => by
    have := r.blk b i B e f
    cases B with
    | cells z c => exact this
    | map ck es => exact this
    | ro c => exact this
    | dead => trivial, r.inj, r.wf⟩
theorem Ext.drew (ρ : Ren) (h : Hp) (w : World) : Ext ρ h w ρ h w.drew := ⟨Ren.le.refl _, Nat.le_refl _, fun b hb _ => ⟨hb, rfl⟩, Nat.le_refl _, fun g _ hg => ⟨rfl, hg⟩, rfl, rfl, rfl, Nat.le_succ _⟩
section
variable {ρ : Ren} {h : Hp} {w : World}
theorem Rel.rd (r : Rel ρ h w) {b o n : Nat} {i : Info} {vs : List Val} (hb : ρ b = some i) (hr : rd h b o n = some vs) : vs.all Val.one = true ∧ ∃ us, VRL ρ vs us ∧ us.length = n ∧ w.rangeAt i.g (i.base + o) us := by
  unfold V.rd at hr
  cases hg : h.get b with
  | none => simp [hg] at hr
  | some B =>
    cases B with
    | cells z c =>
      simp only [hg] at hr
      split at hr
      · rename_i hle
        obtain rfl := Option.some.inj hr
        obtain ⟨h1, h2, h3, h4, h5, h6⟩ := r.blk b i _ hb hg
        refine ⟨List.all_eq_true.2 fun x hx => List.all_eq_true.1 h4 x (List.mem_of_mem_drop (List.mem_of_mem_take hx)), ?_⟩
        obtain ⟨us, h7, h8⟩ := VRL.getL (ρ := ρ) (cs := (c.drop o).take n) (f := fun j => w.cell? ⟨i.g, i.base + o + j, none⟩) fun j u hj => by
          rw [List.getElem?_take] at hj
          split at hj
          · rw [List.getElem?_drop] at hj
            obtain ⟨u', a, q⟩ := h6 _ u hj
            exact ⟨u', by rw [Nat.add_assoc]; exact a, q⟩
          · cases hj
        exact ⟨us, h7, by rw [← h7.1]; simp; omega, fun j v hv => h8 j v hv⟩
      · cases hr
    | ro c =>
      simp only [hg] at hr
      split at hr
      · rename_i hle
        obtain rfl := Option.some.inj hr
        obtain ⟨h4, h6⟩ := r.blk b i _ hb hg
        refine ⟨List.all_eq_true.2 fun x hx => List.all_eq_true.1 h4 x (List.mem_of_mem_drop (List.mem_of_mem_take hx)), ?_⟩
        obtain ⟨us, h7, h8⟩ := VRL.getL (ρ := ρ) (cs := (c.drop o).take n) (f := fun j => w.cell? ⟨i.g, i.base + o + j, none⟩) fun j u hj => by
          rw [List.getElem?_take] at hj
          split at hj
          · rw [List.getElem?_drop] at hj
            obtain ⟨u', a, q⟩ := h6 _ u hj
            exact ⟨u', by rw [Nat.add_assoc]; exact a, q⟩
          · cases hj
        exact ⟨us, h7, by rw [← h7.1]; simp; omega, fun j v hv => h8 j v hv⟩
      · cases hr
    | map ck es => simp [hg] at hr
    | dead => simp [hg] at hr
theorem frozen_congr {w w' : World} {a : Addr} (e : w'.heap[a.block]? = w.heap[a.block]?) : w'.frozen? a = w.frozen? a := by simp [World.frozen?, e]
theorem cell_congr {w w' : World} {a : Addr} (e : w'.heap[a.block]? = w.heap[a.block]?) : w'.cell? a = w.cell? a := by simp [World.cell?, e]
theorem BlkR.congr {i : Info} {w w' : World} {B : Blk} {σ : Ren} (l : ρ.le σ) (e : w'.heap[i.g]? = w.heap[i.g]?) (hB : BlkR ρ i w B) : BlkR σ i w' B := by
  cases B with
  | cells z c =>
    obtain ⟨h1, h2, h3, h4, h5, h6⟩ := hB
    refine ⟨h1, h2, h3, h4, ⟨fun o ho => ?_, ⟨fun c e' fz hf => h5.2.1 c e' fz (e ▸ hf), fun o u q => h5.2.2.1 o u (by rw [cell_congr (a := ⟨i.g, o, none⟩) e] at q; exact q), fun hz c e' fz hf => h5.2.2.2 hz c e' fz (e ▸ hf)⟩⟩, fun j u hj => ?_⟩
    · rw [cell_congr (a := ⟨i.g, o, none⟩) e, frozen_congr (a := ⟨i.g, o, none⟩) e]; exact h5.1 o ho
    · obtain ⟨u', a, q⟩ := h6 j u hj
      exact ⟨u', by rw [cell_congr (a := ⟨i.g, i.base + j, none⟩) e]; exact a, q.mono l⟩
  | ro c =>
    obtain ⟨h4, h6⟩ := hB
    refine ⟨h4, fun j u hj => ?_⟩
    obtain ⟨u', a, q⟩ := h6 j u hj
    exact ⟨u', by rw [cell_congr (a := ⟨i.g, i.base + j, none⟩) e]; exact a, q.mono l⟩
  | map ck es =>
    obtain ⟨en, h1, h2, h3⟩ := hB
    exact ⟨en, e.trans h1, h2, fun j c k v hj => by obtain ⟨x, a, b, p, q⟩ := h3 j c k v hj; exact ⟨x, a, b, p.mono l, q.mono l⟩⟩
  | dead => trivial
theorem putL_length {c : List Val} {o : Nat} {vs : List Val} (h : o + vs.length ≤ c.length) : (putL c o vs).length = c.length := by simp [putL]; omega
theorem putL_get {c : List Val} {o : Nat} {vs : List Val} (h : o + vs.length ≤ c.length) (j : Nat) : (putL c o vs)[j]? = if o ≤ j ∧ j < o + vs.length then vs[j - o]? else c[j]? := by
  unfold putL
  by_cases h1 : j < o
  · rw [if_neg (by omega), List.append_assoc, List.getElem?_append_left (by simp; omega), List.getElem?_take, if_pos h1]
  · by_cases h2 : j < o + vs.length
    · rw [if_pos ⟨by omega, h2⟩, List.append_assoc, List.getElem?_append_right (by simp; omega), List.getElem?_append_left (by simp; omega)]
      congr 1; simp; omega
    · rw [if_neg (by omega), List.append_assoc, List.getElem?_append_right (by simp; omega), List.getElem?_append_right (by simp; omega), List.getElem?_drop]
      congr 1; simp; omega
theorem heap_setCells (b : Nat) : ∀ (vs : List Value) (o : Nat) (w : World) (k : Nat), k ≠ b → (w.setCells b o vs).heap[k]? = w.heap[k]?
  | [], _, _, _, _ => rfl
  | v :: r, o, w, k, hk => by
    rw [World.setCells, heap_setCells b r (o + 1) _ k hk]
    simp only [World.setCell, Array.getElem?_modify]
    split
    · rename_i e; exact absurd e.symm hk
    · rfl
theorem size_setCells (b : Nat) : ∀ (vs : List Value) (o : Nat) (w : World), (w.setCells b o vs).heap.size = w.heap.size
  | [], _, _ => rfl
  | v :: r, o, w => by rw [World.setCells, size_setCells b r]; simp [World.setCell]
theorem os_setCells (b : Nat) : ∀ (vs : List Value) (o : Nat) (w : World), (w.setCells b o vs).os = w.os ∧ (w.setCells b o vs).tape = w.tape ∧ (w.setCells b o vs).output = w.output ∧ (w.setCells b o vs).drawn = w.drawn
  | [], _, _ => ⟨rfl, rfl, rfl, rfl⟩
  | v :: r, o, w => by rw [World.setCells]; exact os_setCells b r (o + 1) _
theorem isSome_setCells (b : Nat) : ∀ (vs : List Value) (o : Nat) (w : World) (x : Addr), (w.cell? x).isSome = true → ((w.setCells b o vs).cell? x).isSome = true
  | [], _, _, _, h => h
  | v :: r, o, w, x, h => by
    rw [World.setCells]
    refine isSome_setCells b r (o + 1) _ x ?_
    simp only [World.cell?, World.setCell, Array.getElem?_modify] at h ⊢
    split
    · rename_i c cc e hh
      split at hh
      · rename_i hb
        cases hw : w.heap[x.block]? with
        | none => simp [hw] at h
        | some ob =>
          rw [hw] at h hh
          cases ob <;> simp at hh h
          obtain ⟨rfl, rfl, rfl⟩ := hh
          split at h
          · simp at h
          · rename_i hs; rw [if_neg hs]; simp at h ⊢; exact h
      · rw [hh] at h; exact h
    · rename_i hh
      split at hh
      · rename_i hb
        cases hw : w.heap[x.block]? with
        | none => simp [hw] at h
        | some ob => rw [hw] at h hh; cases ob <;> simp at hh h
      · cases hw : w.heap[x.block]? with
        | none => simp [hw] at h
        | some ob => rw [hw] at h hh; cases ob <;> simp at hh h
theorem cell_setCell {w : World} {a x : Addr} {v u : Value} (h : (w.setCell a v).cell? x = some u) : u = v ∨ w.cell? x = some u := by
  simp only [World.cell?, World.setCell, Array.getElem?_modify] at h ⊢
  by_cases hb : a.block = x.block
  · rw [if_pos hb] at h
    cases hw : w.heap[x.block]? with
    | none => simp [hw] at h
    | some ob =>
      rw [hw] at h
      cases ob with
      | cells c e fz =>
        simp only [Option.map_some] at h
        split at h
        · cases h
        · by_cases hs : a.spot.isSome = true
          · rw [if_pos hs] at h; exact .inr (by simpa [‹¬ x.spot.isSome = true›] using h)
          · rw [if_neg hs, Array.getElem?_setIfInBounds] at h
            split at h
            · split at h
              · exact .inl (Option.some.inj h).symm
              · cases h
            · exact .inr (by simpa [‹¬ x.spot.isSome = true›] using h)
      | _ => simp at h
  · rw [if_neg hb] at h; exact .inr h
theorem frz_setCell {w : World} {a : Addr} {v : Value} {g : Nat} {c : Array Value} {e : TypeId} {fz : Nat × Nat} (hf : (w.setCell a v).heap[g]? = some (.cells c e fz)) : ∃ c', w.heap[g]? = some (.cells c' e fz) := by
  simp only [World.setCell, Array.getElem?_modify] at hf
  split at hf
  · rename_i hb
    cases hw : w.heap[g]? with
    | none => simp [hw] at hf
    | some ob =>
      rw [hw] at hf
      cases ob <;> simp at hf
      obtain ⟨_, rfl, rfl⟩ := hf
      exact ⟨_, rfl⟩
  · exact ⟨c, hf⟩
theorem fz_setCells {z : Nat} (b : Nat) : ∀ (vs : List Value) (o : Nat) (w : World) (g : Nat), (∀ u ∈ vs, u.oneCell' = true) → Fz z w g → Fz z (w.setCells b o vs) g
  | [], _, _, _, _, h => h
  | v :: r, o, w, g, hv, h => by
    rw [World.setCells]
    refine fz_setCells b r (o + 1) _ g (fun u hu => hv u (List.mem_cons_of_mem _ hu)) ⟨fun c e fz hf => ?_, fun o' u hu => ?_, fun hz c e fz hf => ?_⟩
    · obtain ⟨c', q⟩ := frz_setCell hf; exact h.1 c' e fz q
    · rcases cell_setCell hu with rfl | q
      · exact hv _ (by simp)
      · exact h.2.1 o' u q
    · obtain ⟨c', q⟩ := frz_setCell hf; exact h.2.2 hz c' e fz q
theorem live_set {p : Blk → Bool} {b k : Nat} {z : Nat} {c c' : List Val} (hp : p (.cells z c) = p (.cells z c')) (hb : h.get b = some (.cells z c)) : has p (h.set b (.cells z c')) k ↔ has p h k := by
  unfold has
  by_cases hk : k = b
  · subst hk; simp [Hp.get_set, hb, hp]
  · simp [Hp.get_set, hk]
theorem Rel.wrH {h' : Hp} (r : Rel ρ h w) {b o : Nat} {i : Info} {vs : List Val} {us : List Value} (hb : ρ b = some i) (hr : wrH h b o vs = some h') (hv : VRL ρ vs us) :
    (∀ j, j < us.length → (w.cell? ⟨i.g, i.base + o + j, none⟩).isSome = true) ∧ (∀ j, j < us.length → w.frozen? ⟨i.g, i.base + o + j, none⟩ = false) ∧ (∀ u ∈ us, u.oneCell' = true) ∧ Rel ρ h' (w.setCells i.g (i.base + o) us) ∧ Ext ρ h w ρ h' (w.setCells i.g (i.base + o) us) := by
  unfold V.wrH at hr
  cases hg : h.get b with
  | none => simp [hg] at hr
  | some B =>
    cases B with
    | cells z c =>
      simp only [hg] at hr
      split at hr
      · rename_i hle
        obtain ⟨hle, hone⟩ := hle
        obtain rfl := Option.some.inj hr
        obtain ⟨h1, h2, h3, h4, h5, h6⟩ := r.blk b i _ hb hg
        have hul := hv.1
        have hs : ∀ j, j < us.length → (w.cell? ⟨i.g, i.base + o + j, none⟩).isSome = true := fun j hj => (h5.1 _ (by omega)).1
        refine ⟨hs, fun j hj => (h5.1 _ (by omega)).2, hv.one hone, ?_, ?_⟩
        · refine ⟨fun b' i' e => ?_, fun b' i' B' e f => ?_, fun b1 b2 i1 i2 e1 e2 l1 l2 => r.inj b1 b2 i1 i2 e1 e2 ((live_set (p := Blk.liveB) (z := z) (c := c) (c' := putL c o vs) (Eq.refl true) hg).1 l1) ((live_set (p := Blk.ownB) (z := z) (c := c) (c' := putL c o vs) (Eq.refl true) hg).1 l2), fun k hk => by
            have hbn := (r.dom b i hb).1
            have hk' : h.next ≤ k := hk
            rw [Hp.get_set, if_neg (by omega)]; exact r.wf k hk'⟩
          · have := r.dom b' i' e; rw [size_setCells]; exact this
          · rw [Hp.get_set] at f
            split at f
            · rename_i hbb
              subst hbb
              rw [hb] at e; obtain rfl := Option.some.inj e
              obtain rfl := Option.some.inj f
              refine ⟨h1, by rw [putL_length hle]; exact h2, h3, ?_, ⟨fun o' ho' => ?_, fz_setCells _ _ _ _ _ (hv.one hone) h5.2⟩, fun j u hj => ?_⟩
              · refine List.all_eq_true.2 fun x hx => ?_
                unfold putL at hx
                rcases List.mem_append.1 hx with hx | hx
                · rcases List.mem_append.1 hx with hx | hx
                  · exact List.all_eq_true.1 h4 x (List.mem_of_mem_take hx)
                  · exact List.all_eq_true.1 hone x hx
                · exact List.all_eq_true.1 h4 x (List.mem_of_mem_drop hx)
              · exact ⟨isSome_setCells _ _ _ _ _ (h5.1 o' ho').1, by rw [World.frozen?_setCells]; exact (h5.1 o' ho').2⟩
              · rw [putL_get hle] at hj
                split at hj
                · rename_i hjj
                  obtain ⟨u', a, q⟩ := hv.at hj
                  refine ⟨u', ?_, q⟩
                  have hlt := (List.getElem?_eq_some_iff.1 a).1
                  have := World.cell?_setCells_in i.g us (i.base + o) w hs (j - o) hlt
                  rw [show i.base + j = i.base + o + (j - o) from by omega, this]
                  exact (List.getElem?_eq_getElem hlt).symm.trans a
                · rename_i hjj
                  obtain ⟨u', a, q⟩ := h6 j u hj
                  refine ⟨u', ?_, q⟩
                  rw [World.cell?_setCells_out i.g us (i.base + o) w ⟨i.g, i.base + j, none⟩ (fun _ _ => by simp only; rw [← hul]; omega)]
                  exact a
            · rename_i hbb
              have hB := r.blk b' i' B' e f
              cases B' with
              | dead => trivial
              | cells z' c' =>
                have hne : i'.g ≠ i.g := fun eg => hbb (r.inj b' b i' i e hb ⟨_, f, by simp⟩ ⟨_, hg, by simp⟩ eg)
                exact hB.congr (Ren.le.refl _) (heap_setCells _ _ _ _ _ hne)
              | ro c' =>
                have hne : i'.g ≠ i.g := fun eg => hbb (r.inj b' b i' i e hb ⟨_, f, by simp⟩ ⟨_, hg, by simp⟩ eg)
                exact hB.congr (Ren.le.refl _) (heap_setCells _ _ _ _ _ hne)
              | map ck es =>
                have hne : i'.g ≠ i.g := fun eg => hbb (r.inj b' b i' i e hb ⟨_, f, by simp⟩ ⟨_, hg, by simp⟩ eg)
                exact hB.congr (Ren.le.refl _) (heap_setCells _ _ _ _ _ hne)
        · obtain ⟨o1, o2, o3, o4⟩ := os_setCells i.g us (i.base + o) w
          refine ⟨Ren.le.refl _, Nat.le_refl _, fun b' hb' hl => ⟨hb', ?_⟩, by rw [size_setCells]; exact Nat.le_refl _, fun g hg' hn => ⟨heap_setCells _ _ _ _ _ (fun e => hn b i hb ⟨_, hg, rfl⟩ e.symm), fun b' i' e q => hn b' i' e ((live_set (p := Blk.ownB) (z := z) (c := c) (c' := putL c o vs) (Eq.refl true) hg).1 q)⟩, o1, o2, o3, by rw [o4]; exact Nat.le_refl _⟩
          rw [Hp.get_set, if_neg (fun e => by rw [e, hb] at hb'; cases hb')]
      · cases hr
    | ro c => simp [hg] at hr
    | map ck es => simp [hg] at hr
    | dead => simp [hg] at hr
def Ren.put (ρ : Ren) (b : Nat) (i : Info) : Ren := fun k => if k = b then some i else ρ k
theorem Rel.free (r : Rel ρ h w) : ρ h.next = none := by
  cases e : ρ h.next with
  | none => rfl
  | some i => have := (r.dom _ _ e).1; omega
theorem Ren.le_put {b : Nat} (i : Info) (hb : ρ b = none) : ρ.le (ρ.put b i) := fun k j e => by
  unfold Ren.put
  split
  · rename_i hk; rw [hk, hb] at e; cases e
  · exact e
theorem Rel.newCells (r : Rel ρ h w) {z : Nat} {c : List Val} {cs : List Value} {e : TypeId} {fz : Nat × Nat} (hf : fz.1 < fz.2 → cs.length ≤ fz.1) (hz : fz.1 ≤ fz.2) (hzm : z ≠ 1 → fz.2 ≤ fz.1) (h1 : c.all Val.one = true) (ho1 : ∀ u ∈ cs, u.oneCell' = true) (hlen : c.length ≤ cs.length) (hv : VRL ρ c (cs.take c.length)) :
    Rel (ρ.put h.next ⟨w.heap.size, 0, z, c.length, cs.length⟩) (h.new (.cells z c)) (w.alloc (.cells cs.toArray e fz)) ∧ Ext ρ h w (ρ.put h.next ⟨w.heap.size, 0, z, c.length, cs.length⟩) (h.new (.cells z c)) (w.alloc (.cells cs.toArray e fz)) := by
  have hfree := r.free
  have hle := Ren.le_put (ρ := ρ) (b := h.next) ⟨w.heap.size, 0, z, c.length, cs.length⟩ hfree
  have hput : ∀ b i, (ρ.put h.next ⟨w.heap.size, 0, z, c.length, cs.length⟩) b = some i → (b = h.next ∧ i = ⟨w.heap.size, 0, z, c.length, cs.length⟩) ∨ (b ≠ h.next ∧ ρ b = some i) := fun b i e => by
    unfold Ren.put at e
    split at e
    · rename_i hb; exact .inl ⟨hb, (Option.some.inj e).symm⟩
    · rename_i hb; exact .inr ⟨hb, e⟩
  have hold : ∀ g, g < w.heap.size → (w.alloc (.cells cs.toArray e fz)).heap[g]? = w.heap[g]? := fun g hg => by
    show (w.heap.push _)[g]? = _
    rw [Array.getElem?_push, if_neg (Nat.ne_of_lt hg)]
  have hnew : (w.alloc (.cells cs.toArray e fz)).heap[w.heap.size]? = some (.cells cs.toArray e fz) := by
    show (w.heap.push _)[w.heap.size]? = _
    rw [Array.getElem?_push, if_pos rfl]
  refine ⟨⟨fun b i e => ?_, fun b i B e f => ?_, fun b b' i i' e e' l l' hg => ?_, fun k hk => by
      have hk' : h.next + 1 ≤ k := hk
      rw [Hp.get_new, if_neg (by omega)]; exact r.wf k (by omega)⟩, hle, Nat.le_succ _, fun b hb hl => ⟨?_, ?_⟩, by simp, fun g hg hn => ⟨hold g hg, fun b i e q => ?_⟩, rfl, rfl, rfl, Nat.le_refl _⟩
  · rcases hput b i e with ⟨rfl, rfl⟩ | ⟨_, e⟩
    · exact ⟨Nat.lt_succ_self _, by simp⟩
    · have := r.dom b i e; exact ⟨Nat.lt_succ_of_lt this.1, by simp; omega⟩
  · rcases hput b i e with ⟨rfl, rfl⟩ | ⟨hb, e⟩
    · rw [Hp.get_new, if_pos rfl] at f
      obtain rfl := Option.some.inj f
      refine ⟨rfl, rfl, by simpa using hlen, h1, ⟨fun o ho => ⟨?_, ?_⟩, ⟨fun c' e' fz' hf' => by rw [hnew] at hf'; obtain ⟨_, _, rfl⟩ := (Obj.cells.inj (Option.some.inj hf')); exact hz, fun o u q => by simp only [World.cell?, hnew] at q; exact ho1 u (List.mem_of_getElem? (by simpa using q)), fun hz1 c' e' fz' hf' => by rw [hnew] at hf'; obtain ⟨_, _, rfl⟩ := (Obj.cells.inj (Option.some.inj hf')); exact hzm hz1⟩⟩, fun j u hj => ?_⟩
      · simp only [World.cell?, hnew]; simp; exact ho
      · simp only [World.frozen?, hnew]
        simp
        intro a
        rcases Nat.lt_or_ge fz.1 fz.2 with q | q
        · have := hf q; simp at ho; omega
        · omega
      · have hjl := (List.getElem?_eq_some_iff.1 hj).1
        obtain ⟨u', a, q⟩ := hv.at hj
        refine ⟨u', ?_, q.mono hle⟩
        simp only [World.cell?, hnew]
        rw [List.getElem?_take, if_pos hjl] at a
        simpa using a
    · rw [Hp.get_new, if_neg hb] at f
      exact (r.blk b i B e f).congr hle (hold _ (r.dom b i e).2)
  · have lv : ∀ (p : Blk → Bool) b, b ≠ h.next → has p (h.new (.cells z c)) b → has p h b := fun p b hb ⟨B, a, q⟩ => ⟨B, by rw [Hp.get_new, if_neg hb] at a; exact a, q⟩
    rcases hput b i e with ⟨rfl, rfl⟩ | ⟨hb, e⟩ <;> rcases hput b' i' e' with ⟨rfl, rfl⟩ | ⟨hb', e'⟩
    · rfl
    · have := (r.dom b' i' e').2; simp only at hg; omega
    · have := (r.dom b i e).2; simp only at hg; omega
    · exact r.inj b b' i i' e e' (lv _ b hb l) (lv _ b' hb' l') hg
  · unfold Ren.put; rw [if_neg (by omega)]; exact hb
  · rw [Hp.get_new, if_neg (by omega)]
  · rcases hput b i e with ⟨rfl, rfl⟩ | ⟨hb, e⟩
    · simp; omega
    · obtain ⟨B, q1, q2⟩ := q
      exact hn b i e ⟨B, by rw [Hp.get_new, if_neg hb] at q1; exact q1, q2⟩
end
end Go.V
namespace Go.V
set_option linter.unusedVariables false
set_option linter.unusedSectionVars false
set_option linter.unusedSimpArgs false
variable [Sy]
def EnvR (ρ : Ren) (env : Env) (a : Act) : Prop := ∀ t v, env.get t = some v → VR ρ v (a.tmps.getD t undef)
theorem EnvR.mono {ρ σ : Ren} {env : Env} {a : Act} (l : ρ.le σ) (h : EnvR ρ env a) : EnvR σ env a := fun t v e => (h t v e).mono l
theorem cv1_VR {ρ : Ren} {u : Value} {v : Val} (h : cv1 u = some v) : VR ρ v u := by
  unfold cv1 at h
  split at h <;> first | (obtain rfl := Option.some.inj h) | cases h
  · exact .b _
  · exact .i _ _
  · rename_i s
    have : strVal' s.data.toList = .string s := by unfold strVal'; rw [Array.toArray_toList]
    rw [← this]; exact .s _
  · exact .pn
  · exact .sn
  · exact .mn
  · exact .nf
theorem mapM_cv1 {ρ : Ren} : ∀ {l : List Value} {vs : List Val}, l.mapM cv1 = some vs → VRL ρ vs l := by
  intro l
  induction l with
  | nil => intro vs h; simp at h; subst h; exact VRL.nil
  | cons x l ih =>
    intro vs h
    simp only [List.mapM_cons, Option.bind_eq_bind, Option.pure_def, Option.bind_eq_some_iff, Option.some.injEq] at h
    obtain ⟨v, h1, us, h2, rfl⟩ := h
    exact (ih h2).cons (cv1_VR h1)
theorem cv_VR {ρ : Ren} {u : Value} {v : Val} (h : cv u = some v) : VR ρ v u := by
  unfold cv at h
  split at h
  · rename_i cs
    obtain ⟨vs, h1, rfl⟩ := Option.map_eq_some_iff.1 h
    have := mapM_cv1 (ρ := ρ) h1
    have h2 := VR.agg this.1 this.2
    simpa using h2
  · exact cv1_VR h
theorem cv1_one {u : Value} {v : Val} (h : cv1 u = some v) : u.oneCell' = true := by
  unfold cv1 at h
  split at h <;> first | rfl | cases h
theorem mapM_one : ∀ {l : List Value} {vs : List Val}, l.mapM cv1 = some vs → ∀ u ∈ l, u.oneCell' = true := by
  intro l
  induction l with
  | nil => intro vs _ u hu; cases hu
  | cons x l ih =>
    intro vs h u hu
    simp only [List.mapM_cons, Option.bind_eq_bind, Option.pure_def, Option.bind_eq_some_iff, Option.some.injEq] at h
    obtain ⟨v, h1, us, h2, rfl⟩ := h
    rcases List.mem_cons.1 hu with rfl | hu
    · exact cv1_one h1
    · exact ih h2 u hu
theorem bytesRow_one {s : ByteArray} {n : Nat} : ∀ u ∈ (bytesRow s n).toList, u.oneCell' = true := by
  intro u hu
  simp only [bytesRow, Array.toList_append, Array.toList_map, Array.toList_replicate, List.mem_append, List.mem_map, List.mem_replicate] at hu
  rcases hu with ⟨b, _, rfl⟩ | ⟨_, rfl⟩ <;> rfl
theorem cv_one {u : Value} {v : Val} (h : cv u = some v) : ∀ x ∈ u.cells.toList, x.oneCell' = true := by
  unfold cv at h
  split at h
  · rename_i cs
    obtain ⟨vs, h1, rfl⟩ := Option.map_eq_some_iff.1 h
    exact fun x hx => mapM_one h1 x (by simpa [Value.cells] using hx)
  · have h1 := cv1_one h
    rw [cells_un h1]
    intro x hx
    obtain rfl := List.mem_singleton.1 hx
    exact h1
section
variable {P : Program} {ρ : Ren} {h : Hp} {w : World} {env : Env} {a : Act}
theorem evO_VR (hE : EnvR ρ env a) {x : Operand} {v : Val} (hx : evO env x = some v) : VR ρ v (a.eval x) := by
  cases x with
  | tmp t => exact hE t v hx
  | const c => exact cv_VR hx
  | global g => cases hx
  | func f => obtain rfl := Option.some.inj hx; exact VR.f (vs := []) rfl (fun j u u' h => by simp at h)
theorem evL_VR (hE : EnvR ρ env a) : ∀ {l : List Operand} {vs : List Val}, evL env l = some vs → VRL ρ vs (l.map a.eval) := by
  intro l
  induction l with
  | nil => intro vs h; simp [evL] at h; subst h; exact VRL.nil
  | cons x l ih =>
    intro vs h
    simp only [evL, List.mapM_cons, Option.bind_eq_bind, Option.pure_def, Option.bind_eq_some_iff, Option.some.injEq] at h
    obtain ⟨v, h1, us, h2, rfl⟩ := h
    exact (ih h2).cons (evO_VR hE h1)
def OpR (P : Program) (ρ : Ren) (h : Hp) (w : World) (a : Act) (o : Oper) (v : Val) (h' : Hp) : Prop :=
  ∃ ρ' w' r u, (execOp a.eval o).run P w = .ok r w' ∧ (r = .value u ∨ (r = .skip ∧ u = undef)) ∧ VR ρ' v u ∧ Rel ρ' h' w' ∧ Ext ρ h w ρ' h' w'
theorem OpR.val {o : Oper} {v : Val} {u : Value} (r : Rel ρ h w) (hr : (execOp a.eval o).run P w = .ok (.value u) w) (hv : VR ρ v u) : OpR P ρ h w a o v h :=
  ⟨ρ, w, _, u, hr, .inl rfl, hv, r, Ext.refl _ _ _⟩
theorem run_sz {t : TypeId} {n : Nat} (hs : sz P t = some n) (w : World) : (sizeOf t).run P w = .ok n w := by
  obtain ⟨i, h1, rfl⟩ := Option.map_eq_some_iff.1 hs
  simp [sizeOf, typeInfo, h1]
theorem run_agg {t : TypeId} {b : Bool} (hs : aggT P t = some b) (w : World) : (isAgg t).run P w = .ok b w := by
  obtain ⟨d, h1, rfl⟩ := Option.map_eq_some_iff.1 hs
  unfold isAgg
  rw [Sem.run_bind, run_underlying h1 w]
  cases d <;> rfl
theorem zeroV_some {t : TypeId} {v : Val} (hz : zeroV P t = some v) : ∃ i z, P.info? t = some i ∧ i.zero = some z ∧ cv z = some v := by
  obtain ⟨i, h1, h2⟩ := Option.bind_eq_some_iff.1 hz
  obtain ⟨z, h3, h4⟩ := Option.bind_eq_some_iff.1 h2
  exact ⟨i, z, h1, h3, h4⟩
theorem run_zero {t : TypeId} {i : TypeInfo} {z : Value} (h1 : P.info? t = some i) (h2 : i.zero = some z) (w : World) : (zeroValue t).run P w = .ok z w := by
  simp [zeroValue, typeInfo, h1, h2]
theorem add_lit (g o n : Nat) : (⟨g, o, none⟩ : Addr).add n = ⟨g, o + n, none⟩ := Addr.add_mid g o n
theorem sim_move {o : Oper} {x : Operand} {v : Val} (ho : o.op = .move x ∨ o.op = .assign x) (r : Rel ρ h w) (hE : EnvR ρ env a) (hx : evO env x = some v) : OpR P ρ h w a o v h :=
  OpR.val r (u := a.eval x) (by rcases ho with ho | ho <;> simp [execOp, ho]) (evO_VR hE hx)
theorem sim_pick {o : Oper} {c x y : Operand} {t : Bool} {v : Val} (ho : o.op = .pick c x y) (r : Rel ρ h w) (hE : EnvR ρ env a) (hc : evO env c = some (.b t)) (hx : evO env (bif t then x else y) = some v) : OpR P ρ h w a o v h := by
  have h1 := evO_VR hE hc
  have h2 := evO_VR hE hx
  generalize hq : a.eval c = q at h1
  cases h1
  refine OpR.val r (u := a.eval (bif t then x else y)) ?_ h2
  cases t <;> simp [execOp, ho, hq, asBool]
theorem sim_nilCheck {o : Oper} {x : Operand} {v : Val} (ho : o.op = .nilCheck x) (r : Rel ρ h w) (hE : EnvR ρ env a) (hx : evO env x = some v) (h1 : v ≠ .p none) (h2 : v ≠ .nf) (h3 : v ≠ .un) : OpR P ρ h w a o v h := by
  have hv := evO_VR hE hx
  generalize hq : a.eval x = q at hv
  refine OpR.val r (u := q) ?_ hv
  cases hv <;> first | exact absurd rfl h1 | exact absurd rfl h2 | exact absurd rfl h3 | simp [execOp, ho, hq, strVal']
theorem strVal_toList (x : List UInt8) : (⟨x.toArray⟩ : ByteArray).toList = x := by rw [ByteArray.toList_eq]
theorem ba_add (x y : List UInt8) : (⟨x.toArray⟩ : ByteArray) ++ ⟨y.toArray⟩ = ⟨(x ++ y).toArray⟩ := by
  apply ByteArray.ext
  simp [ByteArray.data_append]
theorem sim_ibin {op : BinOp} {k : IntKind} {x y : Int} {v : Val} (hop : op ≠ .shl ∧ op ≠ .shr) (hv : ibin op k x y = some v) (t : TypeId) : ∃ u, (∀ w, (binOp op t (.int k x) (.int k y)).run P w = .ok u w) ∧ VR ρ v u := by
  unfold ibin at hv
  cases op <;> simp only [Option.some.injEq, reduceCtorEq] at hv <;> first | exact absurd rfl hop.1 | exact absurd rfl hop.2 | skip
  all_goals first
    | (subst hv; refine ⟨_, fun w => ?_, by first | exact VR.i _ _ | exact VR.b _⟩; simp [binOp, Op.intArith, Op.intBits, Op.intCmp]; done)
    | (split at hv
       · cases hv
       · rename_i h0
         obtain rfl := Option.some.inj hv
         refine ⟨_, fun w => ?_, VR.i _ _⟩
         simp [binOp, Op.intDiv, h0])
theorem sim_sh {op : BinOp} {k j : IntKind} {x y : Int} {v : Val} (hop : op = .shl ∨ op = .shr) (hv : shV op k x y = some v) (t : TypeId) : ∃ u, (∀ w, (binOp op t (.int k x) (.int j y)).run P w = .ok u w) ∧ VR ρ v u := by
  unfold shV at hv
  split at hv
  · cases hv
  · rename_i h0
    rcases hop with rfl | rfl
    · obtain rfl := Option.some.inj hv
      exact ⟨_, fun w => by simp [binOp, Op.shift, h0], VR.i _ _⟩
    · obtain rfl := Option.some.inj hv
      exact ⟨_, fun w => by simp [binOp, Op.shift, h0], VR.i _ _⟩
theorem sim_str {op : BinOp} {x y : List UInt8} {v : Val} (hv : strV op x y = some v) (t : TypeId) : ∃ u, (∀ w, (binOp op t (strVal' x) (strVal' y)).run P w = .ok u w) ∧ VR ρ v u := by
  unfold strV at hv
  cases op <;> simp only [Option.some.injEq, reduceCtorEq] at hv
  case add =>
    split at hv
    · rename_i hle
      obtain rfl := Option.some.inj hv
      refine ⟨_, fun w => ?_, VR.s _⟩
      have h1 : ¬ ((((⟨x.toArray⟩ : ByteArray).size + (⟨y.toArray⟩ : ByteArray).size : Nat) : Int) > IntKind.i64.max) := by
        have e1 : (⟨x.toArray⟩ : ByteArray).size = x.length := by simp [ByteArray.size]
        have e2 : (⟨y.toArray⟩ : ByteArray).size = y.length := by simp [ByteArray.size]
        rw [e1, e2]
        have : IntKind.i64.max = 2 ^ 63 - 1 := by decide
        rw [this]
        omega
      simp only [binOp, strVal', Op.stringOp]
      rw [if_neg h1, ba_add]
      rfl
    · cases hv
  all_goals
    subst hv
    refine ⟨_, fun w => ?_, VR.b _⟩
    simp only [binOp, strVal', Op.stringOp, strVal_toList]
    rfl
theorem run_plain {t : TypeId} {d : TypeDesc} {c1 c2 : Val} {u1 u2 : Value} (hp : plainT P t = some d) (l1 : leafOk d c1 = true) (l2 : leafOk d c2 = true) (v1 : VR ρ c1 u1) (v2 : VR ρ c2 u2) (n : Nat) (w : World) :
    (Op.equalIn (n + 1) t u1 u2).run P w = .ok (eq1 c1 c2) w := by
  unfold plainT at hp
  split at hp <;> first | (obtain rfl := Option.some.inj hp) | cases hp
  · cases c1 <;> simp [leafOk] at l1
    cases c2 <;> simp [leafOk] at l2
    cases v1; cases v2
    rw [run_equalIn_bool w n t _ _ (by assumption)]
    rfl
  · rename_i k hu
    cases c1 <;> simp [leafOk] at l1
    cases c2 <;> simp [leafOk] at l2
    subst l1; subst l2
    cases v1; cases v2
    rw [run_equalIn_int w n t _ _ _ _ hu]
    simp [eq1]
  · cases c1 <;> simp [leafOk] at l1
    cases c2 <;> simp [leafOk] at l2
    cases v1; cases v2
    unfold strVal'
    rw [run_equalIn_string w n t _ _ (by assumption), strVal_toList, strVal_toList]
    rfl
theorem agg_plain {t : TypeId} {d : TypeDesc} (hp : plainT P t = some d) (w : World) : (isAgg t).run P w = .ok false w := by
  unfold plainT at hp
  split at hp <;> first | cases hp | skip
  all_goals (unfold isAgg; rw [Sem.run_bind, run_underlying (by assumption) w]; rfl)
theorem run_partP {t : TypeId} {d : TypeDesc} (hp : plainT P t = some d) {us : List Value} {k : Nat} {u : Value} (hk : us[k]? = some u) (w : World) : (part t us.toArray k).run P w = .ok u w := by
  unfold part
  rw [Sem.run_bind, agg_plain hp w]
  simp [hk]
theorem run_fieldsP {c1 c2 : List Val} {u1 u2 : List Value} (v1 : VRL ρ c1 u1) (v2 : VRL ρ c2 u2) (n : Nat) (w : World) : ∀ (fs : List Field) (k : Nat) (l : List TypeDesc), plainF P k fs = some l → leavesOk l (c1.drop k) = true → leavesOk l (c2.drop k) = true →
    (Op.eqFields (n + 1) u1.toArray u2.toArray fs).run P w = .ok (eqL (c1.drop k) (c2.drop k)) w := by
  intro fs
  induction fs with
  | nil =>
    intro k l hl h1 h2
    simp [plainF] at hl; subst hl
    cases e1 : c1.drop k <;> rw [e1] at h1 <;> simp [leavesOk] at h1
    cases e2 : c2.drop k <;> rw [e2] at h2 <;> simp [leavesOk] at h2
    simp [Op.eqFields, eqL]
  | cons f fs ih =>
    intro k l hl h1 h2
    simp only [plainF] at hl
    split at hl
    · rename_i hf
      obtain ⟨d, hd, hl⟩ := Option.bind_eq_some_iff.1 hl
      obtain ⟨l', hl', rfl⟩ := Option.map_eq_some_iff.1 hl
      cases e1 : c1.drop k with
      | nil => rw [e1] at h1; simp [leavesOk] at h1
      | cons x1 r1 =>
        cases e2 : c2.drop k with
        | nil => rw [e2] at h2; simp [leavesOk] at h2
        | cons x2 r2 =>
          rw [e1] at h1; rw [e2] at h2
          simp only [leavesOk, Bool.and_eq_true] at h1 h2
          have g1 : c1[k]? = some x1 := by have := congrArg (·[0]?) e1; simpa [List.getElem?_drop] using this
          have g2 : c2[k]? = some x2 := by have := congrArg (·[0]?) e2; simpa [List.getElem?_drop] using this
          have q1 : c1.drop (k + 1) = r1 := by rw [← List.tail_drop, e1]; rfl
          have q2 : c2.drop (k + 1) = r2 := by rw [← List.tail_drop, e2]; rfl
          obtain ⟨y1, a1, b1⟩ := v1.at g1
          obtain ⟨y2, a2, b2⟩ := v2.at g2
          have hr := ih (k + 1) l' hl' (by rw [q1]; exact h1.2) (by rw [q2]; exact h2.2)
          rw [q1, q2] at hr
          have hq := run_plain hd h1.1 h2.1 b1 b2 n w
          simp only [Op.eqFields, hf.1, ne_eq, not_false_eq_true, if_true, Sem.run_bind, hf.2, run_partP hd a1 w, run_partP hd a2 w, Result.andThen_ok, hq]
          cases he : eq1 x1 x2
          · simp [eqL, he]
          · simp [eqL, he]; exact hr
    · cases hl
theorem run_itemsP {c1 c2 : List Val} {u1 u2 : List Value} (v1 : VRL ρ c1 u1) (v2 : VRL ρ c2 u2) {e : TypeId} {d : TypeDesc} (hd : plainT P e = some d) (n : Nat) (w : World) : ∀ (m k : Nat), leavesOk (List.replicate m d) (c1.drop k) = true → leavesOk (List.replicate m d) (c2.drop k) = true →
    (Op.eqItems (n + 1) e 1 u1.toArray u2.toArray (List.range' k m)).run P w = .ok (eqL (c1.drop k) (c2.drop k)) w := by
  intro m
  induction m with
  | zero =>
    intro k h1 h2
    cases e1 : c1.drop k <;> rw [e1] at h1 <;> simp [leavesOk] at h1
    cases e2 : c2.drop k <;> rw [e2] at h2 <;> simp [leavesOk] at h2
    simp [Op.eqItems, eqL]
  | succ m ih =>
    intro k h1 h2
    cases e1 : c1.drop k with
    | nil => rw [e1] at h1; simp [leavesOk, List.replicate_succ] at h1
    | cons x1 r1 =>
      cases e2 : c2.drop k with
      | nil => rw [e2] at h2; simp [leavesOk, List.replicate_succ] at h2
      | cons x2 r2 =>
        rw [e1] at h1; rw [e2] at h2
        simp only [List.replicate_succ, leavesOk, Bool.and_eq_true] at h1 h2
        have g1 : c1[k]? = some x1 := by have := congrArg (·[0]?) e1; simpa [List.getElem?_drop] using this
        have g2 : c2[k]? = some x2 := by have := congrArg (·[0]?) e2; simpa [List.getElem?_drop] using this
        have q1 : c1.drop (k + 1) = r1 := by rw [← List.tail_drop, e1]; rfl
        have q2 : c2.drop (k + 1) = r2 := by rw [← List.tail_drop, e2]; rfl
        obtain ⟨y1, a1, b1⟩ := v1.at g1
        obtain ⟨y2, a2, b2⟩ := v2.at g2
        have hr := ih (k + 1) (by rw [q1]; exact h1.2) (by rw [q2]; exact h2.2)
        rw [q1, q2] at hr
        have hq := run_plain hd h1.1 h2.1 b1 b2 n w
        simp only [List.range'_succ, Op.eqItems, Sem.run_bind, Nat.mul_one, run_partP hd a1 w, run_partP hd a2 w, Result.andThen_ok, hq]
        cases he : eq1 x1 x2
        · simp [eqL, he]
        · simp [eqL, he]; exact hr
theorem sz_info {t : TypeId} {n : Nat} (h : sz P t = some n) : ∃ i, P.info? t = some i ∧ i.size = n := Option.map_eq_some_iff.1 h
theorem run_flat {t : TypeId} {l : List TypeDesc} {c1 c2 : List Val} {u1 u2 : List Value} (hf : flatT P t = some l) (l1 : leavesOk l c1 = true) (l2 : leavesOk l c2 = true) (v1 : VRL ρ c1 u1) (v2 : VRL ρ c2 u2) (n : Nat) (w : World) :
    (Op.equalIn (n + 2) t (.agg u1.toArray) (.agg u2.toArray)).run P w = .ok (eqL c1 c2) w := by
  unfold flatT at hf
  split at hf
  · rename_i fs hu
    split at hf
    · cases hf
    · rename_i hs
      have hfo : P.fieldsOf t = fs := by simp [Program.fieldsOf, hu]
      rw [run_equalIn_struct w (n + 1) t _ _ (by rw [hfo]; exact hu) (by simpa using hs), hfo]
      exact run_fieldsP v1 v2 n w fs.toList 0 l hf l1 l2
  · rename_i m e hu
    split at hf
    · rename_i hs
      obtain ⟨d, hd, rfl⟩ := Option.map_eq_some_iff.1 hf
      obtain ⟨i, hi, hi2⟩ := sz_info hs
      rw [run_equalIn_array w (n + 1) _ _ hu hi, show P.cellsOf e = 1 by simp [Program.cellsOf, hi, hi2], List.range_eq_range']
      exact run_itemsP v1 v2 hd n w m 0 l1 l2
    · cases hf
  · cases hf
theorem sim_eq {t : TypeId} {x y : Val} {u1 u2 : Value} {q : Bool} (hq : eqV P t x y = some q) (v1 : VR ρ x u1) (v2 : VR ρ y u2) (w : World) : (Op.equal t u1 u2).run P w = .ok q w := by
  suffices key : ∀ n, (Op.equalIn (n + 2) t u1 u2).run P w = .ok q w from key 9998
  intro n
  unfold eqV at hq
  split at hq
  · rename_i hu
    obtain rfl := Option.some.inj hq
    cases v1; cases v2
    exact run_equalIn_bool w (n + 1) t _ _ hu
  · rename_i hu; obtain rfl := Option.some.inj hq; cases v1; cases v2 <;> (unfold Op.equalIn; rw [Sem.run_bind, run_underlying hu w]; rfl)
  · rename_i hu; obtain rfl := Option.some.inj hq; cases v1; cases v2; (unfold Op.equalIn; rw [Sem.run_bind, run_underlying hu w]; rfl)
  · rename_i hu; obtain rfl := Option.some.inj hq; cases v1; cases v2 <;> (unfold Op.equalIn; rw [Sem.run_bind, run_underlying hu w]; rfl)
  · rename_i hu; obtain rfl := Option.some.inj hq; cases v1 <;> cases v2 <;> (unfold Op.equalIn; rw [Sem.run_bind, run_underlying hu w]; rfl)
  · rename_i hu; obtain rfl := Option.some.inj hq; cases v1; cases v2; (unfold Op.equalIn; rw [Sem.run_bind, run_underlying hu w]; rfl)
  · rename_i hu; obtain rfl := Option.some.inj hq; cases v1; cases v2; (unfold Op.equalIn; rw [Sem.run_bind, run_underlying hu w]; rfl)
  · rename_i hu; obtain rfl := Option.some.inj hq; cases v1; cases v2; (unfold Op.equalIn; rw [Sem.run_bind, run_underlying hu w]; rfl)
  · rename_i hu; obtain rfl := Option.some.inj hq; cases v1; cases v2; (unfold Op.equalIn; rw [Sem.run_bind, run_underlying hu w]; rfl)
  · rename_i hu; obtain rfl := Option.some.inj hq; cases v1; cases v2; (unfold Op.equalIn; rw [Sem.run_bind, run_underlying hu w]; rfl)
  · rename_i hu; obtain rfl := Option.some.inj hq; cases v1; cases v2 <;> (unfold Op.equalIn; rw [Sem.run_bind, run_underlying hu w]; rfl)
  · rename_i hu; obtain rfl := Option.some.inj hq; cases v1; cases v2; (unfold Op.equalIn; rw [Sem.run_bind, run_underlying hu w]; rfl)
  · split at hq
    · rename_i l hf
      split at hq
      · rename_i hc
        simp only [Bool.and_eq_true] at hc
        obtain rfl := Option.some.inj hq
        cases v1 with
        | agg a1 b1 => cases v2 with
          | agg a2 b2 => exact run_flat hf hc.1.1 hc.1.2 ⟨a1, b1⟩ ⟨a2, b2⟩ n w
      · cases hq
    · cases hq
  · split at hq
    · rename_i l hf
      split at hq
      · rename_i hc
        simp only [Bool.and_eq_true] at hc
        obtain rfl := Option.some.inj hq
        cases v1 with
        | agg a1 b1 => cases v2 with
          | agg a2 b2 => exact run_flat hf hc.1.1 hc.1.2 ⟨a1, b1⟩ ⟨a2, b2⟩ n w
      · cases hq
    · cases hq
  · cases hq
end
end Go.V
namespace Go.V
set_option linter.unusedVariables false
set_option linter.unusedSectionVars false
set_option linter.unusedSimpArgs false
variable [Sy]
section
variable {P : Program} {ρ : Ren} {h : Hp} {w : World} {env : Env} {a : Act}
theorem run_bq {t : TypeId} {x y : Val} {u1 u2 : Value} {q : Bool} (hq : eqV P t x y = some q) (v1 : VR ρ x u1) (v2 : VR ρ y u2) (w : World) :
    (do pure (Value.bool (← Op.equal t u1 u2)) : Sem Value).run P w = .ok (.bool q) w := by
  rw [Sem.run_bind, sim_eq hq v1 v2 w]; rfl
theorem run_bn {t : TypeId} {x y : Val} {u1 u2 : Value} {q : Bool} (hq : eqV P t x y = some q) (v1 : VR ρ x u1) (v2 : VR ρ y u2) (w : World) :
    (do pure (Value.bool (!(← Op.equal t u1 u2))) : Sem Value).run P w = .ok (.bool (!q)) w := by
  rw [Sem.run_bind, sim_eq hq v1 v2 w]; rfl
theorem guard_none {op : BinOp} {t : TypeId} {x y : Operand} {u1 u2 : Value} (h1 : ∀ b c, ¬ (u1 = .agg b ∧ u2 = .agg c)) (h2 : u1 ≠ .nilIface) (w : World) : (eqGuard op t x y u1 u2).run P w = .ok () w := by
  unfold eqGuard
  cases op <;> first
    | rfl
    | (simp only [Bool.not_true, Bool.false_eq_true, if_false]
       split
       · exact absurd rfl h2
       · exact absurd ⟨rfl, rfl⟩ (h1 _ _)
       · rfl)
theorem guard_agg {op : BinOp} {t : TypeId} {x y : Operand} {b c : Array Value} (hg : P.eqGuardType P.depth t = false) (w : World) : (eqGuard op t x y (.agg b) (.agg c)).run P w = .ok () w := by
  unfold eqGuard
  cases op <;> first
    | rfl
    | (simp only [Bool.not_true, Bool.false_eq_true, if_false]
       simp [hg])
theorem sim_cmp {t : TypeId} {x y : Val} {u1 u2 : Value} {q : Bool} (o1 o2 : Operand) (hq : eqV P t x y = some q) (v1 : VR ρ x u1) (v2 : VR ρ y u2) (w : World) :
    (binOp .eql t u1 u2).run P w = .ok (.bool q) w ∧ (binOp .neq t u1 u2).run P w = .ok (.bool (!q)) w ∧ (∀ op, (eqGuard op t o1 o2 u1 u2).run P w = .ok () w) := by
  have e1 := run_bq hq v1 v2 w
  have e2 := run_bn hq v1 v2 w
  unfold eqV at hq
  split at hq
  case h_13 =>
    split at hq
    · split at hq
      · rename_i hc
        simp only [Bool.and_eq_true, Bool.not_eq_true'] at hc
        cases v1; cases v2
        exact ⟨e1, e2, fun op => guard_agg hc.2 w⟩
      · cases hq
    · cases hq
  case h_14 =>
    split at hq
    · split at hq
      · rename_i hc
        simp only [Bool.and_eq_true, Bool.not_eq_true'] at hc
        cases v1; cases v2
        exact ⟨e1, e2, fun op => guard_agg hc.2 w⟩
      · cases hq
    · cases hq
  all_goals first
    | (cases hq; done)
    | (cases v1 <;> cases v2 <;> exact ⟨e1, e2, fun op => guard_none (by simp) (by simp) w⟩)
theorem cmpY_ibin {op : BinOp} {k : IntKind} {lo hi a c : Int} {v : Val} (h1 : lo ≤ a) (h2 : a ≤ hi) (hv : cmpY op lo hi c = some v) : (op ≠ .shl ∧ op ≠ .shr) ∧ ibin op k a c = some v := by
  unfold cmpY at hv
  cases op <;> simp only [reduceCtorEq] at hv <;> refine ⟨by simp, ?_⟩ <;> simp only [ibin]
  all_goals
    split at hv
    · obtain rfl := Option.some.inj hv
      simp only [Option.some.injEq, Val.b.injEq, beq_eq_false_iff_ne, bne_iff_ne, decide_eq_true_eq, decide_eq_false_iff_not, ne_eq] <;> omega
    · first
        | (cases hv; done)
        | (split at hv
           · obtain rfl := Option.some.inj hv
             simp only [Option.some.injEq, Val.b.injEq, decide_eq_true_eq, decide_eq_false_iff_not] <;> omega
           · cases hv)
theorem flipY_ibin {op : BinOp} {k : IntKind} {a c : Int} {v : Val} (hv : (flipY op ≠ .shl ∧ flipY op ≠ .shr) ∧ ibin (flipY op) k a c = some v) (hc : ∃ lo hi, cmpY (flipY op) lo hi c = some v) : (op ≠ .shl ∧ op ≠ .shr) ∧ ibin op k c a = some v := by
  obtain ⟨lo, hi, hc⟩ := hc
  obtain ⟨hs, hv⟩ := hv
  cases op <;> simp only [flipY, cmpY, reduceCtorEq] at hc <;> refine ⟨by simp, ?_⟩ <;> simp only [flipY, ibin] at hv ⊢ <;> rw [← hv] <;> congr 2
  · rw [Bool.beq_comm]
  · simp only [bne, Bool.beq_comm]
theorem yV_ibin {op : BinOp} {p q v : Val} {u1 u2 : Value} (hv : yV op p q = some v) (v1 : VR ρ p u1) (v2 : VR ρ q u2) : ∃ k a c, u1 = .int k a ∧ u2 = .int k c ∧ (op ≠ .shl ∧ op ≠ .shr) ∧ ibin op k a c = some v := by
  unfold yV at hv
  split at hv
  · split at hv
    · rename_i hk; subst hk
      cases v1 with
      | y h1 h2 =>
        cases v2
        exact ⟨_, _, _, rfl, rfl, cmpY_ibin h1 h2 hv⟩
    · cases hv
  · split at hv
    · rename_i hk; subst hk
      cases v2 with
      | y h1 h2 =>
        cases v1
        exact ⟨_, _, _, rfl, rfl, flipY_ibin (cmpY_ibin h1 h2 hv) ⟨_, _, hv⟩⟩
    · cases hv
  · split at hv
    · rename_i hk
      obtain ⟨rfl, rfl⟩ := hk
      cases v1; cases v2
      refine ⟨_, _, _, rfl, rfl, ?_⟩
      unfold sameY at hv
      cases op <;> simp only [reduceCtorEq, Option.some.injEq] at hv <;> subst hv <;> refine ⟨by simp, ?_⟩ <;> simp [ibin]
    · cases hv
  · cases hv
theorem sim_bin {o : Oper} {op : BinOp} {t t2 : TypeId} {x y : Operand} {p q v : Val} (ho : o.op = .binOp op t x y t2) (r : Rel ρ h w) (hE : EnvR ρ env a) (hx : evO env x = some p) (hy : evO env y = some q) (hv : binV P op t p q = some v) : OpR P ρ h w a o v h := by
  have v1 := evO_VR hE hx
  have v2 := evO_VR hE hy
  have hrun : ∀ {u : Value}, (eqGuard op t x y (a.eval x) (a.eval y)).run P w = .ok () w → (binOp op t (a.eval x) (a.eval y)).run P w = .ok u w → (execOp a.eval o).run P w = .ok (.value u) w := fun h1 h2 => by
    simp only [execOp, ho, Sem.run_bind, h1, Result.andThen_ok, h2, Sem.run_pure]
  have sim_y : (∀ {u : Value}, (eqGuard op t x y (a.eval x) (a.eval y)).run P w = .ok () w → (binOp op t (a.eval x) (a.eval y)).run P w = .ok u w → (execOp a.eval o).run P w = .ok (.value u) w) → ∀ {p q : Val}, yV op p q = some v → VR ρ p (a.eval x) → VR ρ q (a.eval y) → OpR P ρ h w a o v h := by
    intro hrun p q hv v1 v2
    obtain ⟨k, m, n, e1, e2, hop, hb⟩ := yV_ibin hv v1 v2
    rw [e1, e2] at hrun
    obtain ⟨u, h1, h2⟩ := sim_ibin (P := P) (ρ := ρ) hop hb t
    exact OpR.val r (hrun (guard_none (P := P) (op := op) (t := t) (x := x) (y := y) (u1 := .int k m) (u2 := .int k n) (by simp) (by simp) w) (h1 w)) h2
  unfold binV at hv
  split at hv
  · rename_i k m j n
    generalize a.eval x = u1 at v1 hrun
    generalize a.eval y = u2 at v2 hrun
    cases v1; cases v2
    have hg := guard_none (P := P) (op := op) (t := t) (x := x) (y := y) (u1 := .int k m) (u2 := .int j n) (by simp) (by simp) w
    split at hv
    · obtain ⟨u, h1, h2⟩ := sim_sh (P := P) (ρ := ρ) (j := j) (.inl rfl) hv t
      exact OpR.val r (hrun hg (h1 w)) h2
    · obtain ⟨u, h1, h2⟩ := sim_sh (P := P) (ρ := ρ) (j := j) (.inr rfl) hv t
      exact OpR.val r (hrun hg (h1 w)) h2
    · split at hv
      · rename_i n1 n2 hkj
        subst hkj
        obtain ⟨u, h1, h2⟩ := sim_ibin (P := P) (ρ := ρ) ⟨n1, n2⟩ hv t
        exact OpR.val r (hrun hg (h1 w)) h2
      · cases hv
  · rename_i m n
    generalize a.eval x = u1 at v1 hrun
    generalize a.eval y = u2 at v2 hrun
    cases v1; cases v2
    have hg := guard_none (P := P) (op := op) (t := t) (x := x) (y := y) (u1 := strVal' m) (u2 := strVal' n) (by simp [strVal']) (by simp [strVal']) w
    obtain ⟨u, h1, h2⟩ := sim_str (P := P) (ρ := ρ) hv t
    exact OpR.val r (hrun hg (h1 w)) h2
  · unfold yW at hv
    split at hv
    · split at hv
      · rename_i hc
        obtain rfl := Option.some.inj hv
        subst hc
        generalize a.eval x = u1 at v1 hrun
        generalize a.eval y = u2 at v2 hrun
        cases v1
        cases v2
        rename_i g1 g2
        have key : ∀ (kk qq : IntKind) (m : Int), (binOp .shr t (.int kk m) (.int qq 0)).run P w = .ok (.int kk m) w := fun kk qq m => by
          obtain ⟨u, h1, h2⟩ := sim_sh (P := P) (ρ := ρ) (op := .shr) (k := kk) (j := qq) (x := m) (y := 0) (v := .i kk m) (.inr rfl) (by simp [shV, Int.fdiv_one]) t
          cases h2
          exact h1 w
        exact OpR.val r (hrun (guard_none (P := P) (op := .shr) (t := t) (x := x) (y := y) (by simp) (by simp) w) (key _ _ _)) (.y g1 g2)
      · cases hv
    · exact sim_y hrun hv v1 v2
  · exact sim_y hrun hv v1 v2
  · split at hv
    · obtain ⟨b, hb, rfl⟩ := Option.map_eq_some_iff.1 hv
      obtain ⟨h1, h2, h3⟩ := sim_cmp x y hb v1 v2 w
      exact OpR.val r (hrun (h3 _) h1) (.b _)
    · obtain ⟨b, hb, rfl⟩ := Option.map_eq_some_iff.1 hv
      obtain ⟨h1, h2, h3⟩ := sim_cmp x y hb v1 v2 w
      exact OpR.val r (hrun (h3 _) h2) (.b _)
    · cases hv
theorem sim_un {o : Oper} {op : UnOp} {t : TypeId} {x : Operand} {p v : Val} (ho : o.op = .unOp op t x) (r : Rel ρ h w) (hE : EnvR ρ env a) (hx : evO env x = some p) (hv : unV op p = some v) : OpR P ρ h w a o v h := by
  have v1 := evO_VR hE hx
  have hrun : ∀ {u : Value}, (Op.unary op (a.eval x)).run P w = .ok u w → (execOp a.eval o).run P w = .ok (.value u) w := fun h2 => by
    simp only [execOp, ho, Sem.run_bind, Result.andThen_ok, h2, Sem.run_pure]
  generalize a.eval x = u1 at v1 hrun
  unfold unV at hv
  split at hv
  · obtain rfl := Option.some.inj hv
    cases v1
    exact OpR.val r (hrun (u := _) rfl) (.i _ _)
  · cases v1
    unfold ibin at hv
    obtain rfl := Option.some.inj hv
    exact OpR.val r (hrun (u := _) rfl) (.i _ _)
  · obtain rfl := Option.some.inj hv
    cases v1
    exact OpR.val r (hrun (u := _) rfl) (.b _)
  · cases hv
theorem natV_some {v : Val} {n : Nat} (hv : natV v = some n) : ∃ k, v = .i k n ∧ n ≤ 2 ^ 40 := by
  unfold natV at hv
  split at hv
  · rename_i k m
    split at hv
    · rename_i hm
      obtain rfl := Option.some.inj hv
      exact ⟨k, by rw [Int.toNat_of_nonneg hm.1], by omega⟩
    · cases hv
  · cases hv
theorem natI_some {v : Val} {n : Nat} (hv : natI v = some n) : ∃ k, v = .i k n := by
  unfold natI at hv
  split at hv
  · rename_i k m
    split at hv
    · rename_i hm
      obtain rfl := Option.some.inj hv
      exact ⟨k, by rw [Int.toNat_of_nonneg hm]⟩
    · cases hv
  · cases hv
theorem sim_fieldAddr {o : Oper} {s : TypeId} {x : Operand} {f b q n : Nat} {fd : Field} (ho : o.op = .fieldAddr s x f) (r : Rel ρ h w) (hE : EnvR ρ env a) (hx : evO env x = some (.p (some (b, q)))) (hf : fldT P s f = some fd) (hs : sz P fd.type = some n) (hn : 0 < n) :
    OpR P ρ h w a o (.p (some (b, q + fd.offset))) h := by
  have v1 := evO_VR hE hx
  generalize hu : a.eval x = u1 at v1
  cases v1 with
  | p hb =>
    unfold fldT at hf
    split at hf
    · rename_i fs hst
      refine OpR.val r (u := .pointer (some ⟨_, _, none⟩)) ?_ (.p hb)
      simp only [execOp, ho, hu, Instr.fieldAt, Instr.sureAddr, fieldPlace, Sem.run_bind, run_underlying hst w, Result.andThen_ok, hf, Sem.run_pure, run_sz hs w]
      rw [if_neg (by omega)]
      simp only [Sem.run_pure, Result.andThen_ok, add_lit, Nat.add_assoc]
    · cases hf
theorem sim_index {o : Oper} {t : TypeId} {x y : Operand} {p q v : Val} (ho : o.op = .indexAddr t x y) (r : Rel ρ h w) (hE : EnvR ρ env a) (hx : evO env x = some p) (hy : evO env y = some q) (hv : idxA P t p q = some v) : OpR P ρ h w a o v h := by
  have v1 := evO_VR hE hx
  have v2 := evO_VR hE hy
  unfold idxA at hv
  rw [Option.bind_eq_some_iff] at hv; obtain ⟨i, hi, hv⟩ := hv
  obtain ⟨k, rfl⟩ := natI_some hi
  generalize hu2 : a.eval y = u2 at v2
  cases v2
  generalize hu1 : a.eval x = u1 at v1
  have hrun : ∀ {u : Value}, (Instr.indexAt t u1 (.int k i)).run P w = .ok u w → (execOp a.eval o).run P w = .ok (.value u) w := fun h2 => by
    simp only [execOp, ho, hu1, hu2, Sem.run_bind, Result.andThen_ok, h2, Sem.run_pure]
  split at hv
  · rename_i n e b off hst
    rw [Option.bind_eq_some_iff] at hv; obtain ⟨z, hz, hv⟩ := hv
    split at hv
    · rename_i hlt
      obtain rfl := Option.some.inj hv
      cases v1 with
      | p hb =>
        refine OpR.val r (hrun (u := .pointer (some ⟨_, _, none⟩)) ?_) (.p hb)
        simp only [Instr.indexAt, asIntOf, Instr.sureAddr, Sem.run_bind, run_underlying hst w, Result.andThen_ok, Sem.run_pure, run_sz hz w]
        rw [if_pos ⟨by omega, by omega⟩]
        simp only [Sem.run_bind, run_sz hz w, Result.andThen_ok, Sem.run_pure, add_lit, Nat.add_assoc, Int.toNat_natCast]
    · cases hv
  · rename_i e b off len c hst
    rw [Option.bind_eq_some_iff] at hv; obtain ⟨z, hz, hv⟩ := hv
    split at hv
    · rename_i hlt
      obtain rfl := Option.some.inj hv
      have key : ∀ (i' : Info) (cc : Nat), ρ b = some i' → u1 = .slice (some ⟨i'.g, i'.base + off, none⟩) len cc → OpR P ρ h w a o (.p (some (b, off + i * z))) h := fun i' cc hb e1 => by
        subst e1
        refine OpR.val r (hrun (u := .pointer (some ⟨_, _, none⟩)) ?_) (.p hb)
        simp only [Instr.indexAt, asIntOf, Sem.run_bind, run_underlying hst w, Result.andThen_ok, Sem.run_pure]
        rw [if_pos ⟨by omega, by omega⟩]
        simp only [Sem.run_bind, run_sz hz w, Result.andThen_ok, Sem.run_pure, add_lit, Nat.add_assoc, Int.toNat_natCast]
      cases v1 with
      | sk hb _ => exact key _ _ hb rfl
      | so hb _ _ _ => exact key _ _ hb rfl
    · cases hv
  · cases hv
theorem sim_part {t : TypeId} {cs : List Val} {us : List Value} {k : Nat} {v : Val} (hv : partV P t cs k = some v) (hr : VRL ρ cs us) (w : World) : ∃ u, (part t us.toArray k).run P w = .ok u w ∧ VR ρ v u := by
  unfold partV at hv
  rw [Option.bind_eq_some_iff] at hv; obtain ⟨b, hb, hv⟩ := hv
  cases b with
  | true =>
    simp only [cond_true] at hv
    rw [Option.bind_eq_some_iff] at hv; obtain ⟨n, hn, hv⟩ := hv
    split at hv
    · rename_i hle
      obtain rfl := Option.some.inj hv
      have h2 := (hr.drop k).take n
      refine ⟨_, ?_, VR.agg h2.1 h2.2⟩
      simp only [part, Sem.run_bind, run_agg hb w, Result.andThen_ok, if_true, run_sz hn w, Sem.run_pure]
      congr 2
      apply Array.ext'
      simp
    · cases hv
  | false =>
    simp only [cond_false] at hv
    obtain ⟨u, h1, h2⟩ := hr.at hv
    refine ⟨u, ?_, h2⟩
    simp [part, run_agg hb, h1]
theorem sim_field {o : Oper} {s : TypeId} {x : Operand} {f : Nat} {fd : Field} {cs : List Val} {v : Val} (ho : o.op = .field s x f) (r : Rel ρ h w) (hE : EnvR ρ env a) (hx : evO env x = some (.agg cs)) (hf : fldT P s f = some fd) (hv : partV P fd.type cs fd.offset = some v) :
    OpR P ρ h w a o v h := by
  have v1 := evO_VR hE hx
  generalize hu : a.eval x = u1 at v1
  cases v1 with
  | agg a1 a2 =>
    unfold fldT at hf
    split at hf
    · rename_i fs hst
      obtain ⟨u, h1, h2⟩ := sim_part hv ⟨a1, a2⟩ w
      refine OpR.val r (u := u) ?_ h2
      simp only [execOp, ho, hu, Instr.field, asAgg, Sem.run_bind, run_underlying hst w, Result.andThen_ok, hf, Sem.run_pure, h1]
    · cases hf
theorem sim_idxV {o : Oper} {t : TypeId} {x y : Operand} {p q v : Val} (ho : o.op = .index t x y) (r : Rel ρ h w) (hE : EnvR ρ env a) (hx : evO env x = some p) (hy : evO env y = some q) (hv : idxV P t p q = some v) : OpR P ρ h w a o v h := by
  have v1 := evO_VR hE hx
  have v2 := evO_VR hE hy
  unfold idxV at hv
  rw [Option.bind_eq_some_iff] at hv; obtain ⟨i, hi, hv⟩ := hv
  obtain ⟨k, rfl⟩ := natI_some hi
  generalize hu2 : a.eval y = u2 at v2
  cases v2
  generalize hu1 : a.eval x = u1 at v1
  have hrun : ∀ {u : Value}, (Instr.index t u1 (.int k i)).run P w = .ok u w → (execOp a.eval o).run P w = .ok (.value u) w := fun h2 => by
    simp only [execOp, ho, hu1, hu2, Sem.run_bind, Result.andThen_ok, h2, Sem.run_pure]
  split at hv
  · rename_i n e cs hst
    rw [Option.bind_eq_some_iff] at hv; obtain ⟨z, hz, hv⟩ := hv
    split at hv
    · rename_i hlt
      cases v1 with
      | agg a1 a2 =>
        obtain ⟨u, h1, h2⟩ := sim_part hv ⟨a1, a2⟩ w
        refine OpR.val r (hrun (u := u) ?_) h2
        simp only [Instr.index, asIntOf, Sem.run_bind, run_underlying hst w, Result.andThen_ok, Sem.run_pure]
        rw [if_pos ⟨by omega, by omega⟩]
        simp only [Sem.run_bind, run_sz hz w, Result.andThen_ok, Int.toNat_natCast, h1]
    · cases hv
  · rename_i s hst
    obtain ⟨c, hc, rfl⟩ := Option.map_eq_some_iff.1 hv
    cases v1
    have hg : (⟨s.toArray⟩ : ByteArray)[i]? = some c := by
      obtain ⟨hlt, hc⟩ := List.getElem?_eq_some_iff.1 hc
      have hsz : i < (⟨s.toArray⟩ : ByteArray).size := by simp [ByteArray.size]; exact hlt
      rw [getElem?_pos (⟨s.toArray⟩ : ByteArray) i hsz, ← hc]
      rfl
    refine OpR.val r (hrun (u := .int .u8 c.toNat) ?_) (.i _ _)
    simp only [Instr.index, strVal', asIntOf, Sem.run_bind, run_underlying hst w, Result.andThen_ok, Sem.run_pure, Int.toNat_natCast, hg, Int.natCast_nonneg, if_true]
  · cases hv
theorem sim_extract {o : Oper} {x : Operand} {i : Nat} {vs : List Val} {v : Val} (ho : o.op = .extract x i) (r : Rel ρ h w) (hE : EnvR ρ env a) (hx : evO env x = some (.tup vs)) (hv : vs[i]? = some v) : OpR P ρ h w a o v h := by
  have v1 := evO_VR hE hx
  generalize hu : a.eval x = u1 at v1
  cases v1 with
  | tup a1 a2 =>
    obtain ⟨u, h1, h2⟩ := (VRL.at (ρ := ρ) ⟨a1, a2⟩ hv)
    refine OpR.val r (u := u) ?_ h2
    simp [execOp, ho, hu, Instr.extract, h1]
theorem sim_makeFunc {o : Oper} {f : FuncId} {first caps : Array Operand} {l : List Val} (ho : o.op = .makeFunc (.func f) first caps) (r : Rel ρ h w) (hE : EnvR ρ env a) (hf : first.size = 0) (hl : evL env caps.toList = some l) : OpR P ρ h w a o (.f f l) h := by
  have h1 := evL_VR hE hl
  have e0 : first = #[] := Array.eq_empty_of_size_eq_zero hf
  refine OpR.val r (u := .func (.func f) #[] (caps.toList.map a.eval).toArray) ?_ (.f h1.1 h1.2)
  simp only [execOp, ho, Instr.makeFunc, e0, Sem.run_bind, Sem.run_pure, Result.andThen_ok]
  have e1 : (caps.toList.map a.eval).toArray = caps.map a.eval := by apply Array.ext'; simp
  rw [e1]
  simp
theorem sim_toArr {o : Oper} {t : TypeId} {x : Operand} {b : Nat × Nat} {n k : Nat} {c : Cap} {e : TypeId} (ho : o.op = .sliceToArrayPointer t x) (r : Rel ρ h w) (hE : EnvR ρ env a) (hx : evO env x = some (.sl (some b) n c)) (ht : P.underlying t = some (.array k e)) (hk : k ≤ n) : OpR P ρ h w a o (.p (some b)) h := by
  have v1 := evO_VR hE hx
  generalize hu : a.eval x = u1 at v1
  obtain ⟨b, off⟩ := b
  have key : ∀ (i' : Info) (cc : Nat), ρ b = some i' → u1 = .slice (some ⟨i'.g, i'.base + off, none⟩) n cc → OpR P ρ h w a o (.p (some (b, off))) h := fun i' cc hb e1 => by
    subst e1
    refine OpR.val r (u := .pointer (some ⟨_, _, none⟩)) ?_ (.p hb)
    simp only [execOp, ho, hu, Instr.arrayAt, Sem.run_bind, run_underlying ht w, Result.andThen_ok]
    rw [if_neg (by omega)]
    rfl
  cases v1 with
  | sk hb _ => exact key _ _ hb rfl
  | so hb _ _ _ => exact key _ _ hb rfl
end
end Go.V
namespace Go.V
set_option linter.unusedVariables false
set_option linter.unusedSectionVars false
set_option linter.unusedSimpArgs false
variable [Sy]
section
variable {P : Program} {ρ : Ren} {h : Hp} {w : World} {env : Env} {a : Act}
theorem run_cell {x : Addr} {u : Value} (hc : w.cell? x = some u) : (load x).run P w = .ok u w := by simp [load, Sem.run, hc]
theorem run_cells {g o : Nat} {us : List Value} (hr : w.rangeAt g o us) : (loadCells ⟨g, o, none⟩ us.length).run P w = .ok us.toArray w :=
  run_loadCells_list (P := P) w ⟨g, o, none⟩ us fun j v hv => by rw [add_lit]; exact hr j v hv
theorem ld_run {t : TypeId} {b o : Nat} {v : Val} (r : Rel ρ h w) (hv : ldV P h t (.p (some (b, o))) = some v) {i : Info} (hb : ρ b = some i) : ∃ u, (loadVar t ⟨i.g, i.base + o, none⟩).run P w = .ok u w ∧ VR ρ v u := by
  unfold ldV at hv
  simp only at hv
  rw [Option.bind_eq_some_iff] at hv; obtain ⟨g, hg, hv⟩ := hv
  cases g with
  | true =>
    simp only [cond_true] at hv
    rw [Option.bind_eq_some_iff] at hv; obtain ⟨n, hn, hv⟩ := hv
    obtain ⟨vs, hr, rfl⟩ := Option.map_eq_some_iff.1 hv
    obtain ⟨_, us, h1, h2, h3⟩ := r.rd hb hr
    refine ⟨_, ?_, VR.agg h1.1 h1.2⟩
    subst h2
    simp only [loadVar, Sem.run_bind, run_agg hg w, Result.andThen_ok, if_true, run_sz hn w, run_cells h3, Sem.run_pure]
  | false =>
    simp only [cond_false] at hv
    rw [Option.bind_eq_some_iff] at hv; obtain ⟨vs, hr, hv⟩ := hv
    obtain ⟨_, us, h1, h2, h3⟩ := r.rd hb hr
    cases vs with
    | nil => cases hv
    | cons x vs =>
      obtain rfl := Option.some.inj hv
      obtain ⟨u, a1, a2⟩ := h1.at (j := 0) rfl
      refine ⟨u, ?_, a2⟩
      have := h3 0 u a1
      simp only [loadVar, Sem.run_bind, run_agg hg w, Result.andThen_ok, Bool.false_eq_true, if_false]
      exact run_cell this
theorem sim_load {o : Oper} {t : TypeId} {x : Operand} {p v : Val} (ho : o.op = .load t x) (r : Rel ρ h w) (hE : EnvR ρ env a) (hx : evO env x = some p) (hv : ldV P h t p = some v) : OpR P ρ h w a o v h := by
  have v1 := evO_VR hE hx
  generalize hu : a.eval x = u1 at v1
  cases v1 with
  | p hb =>
    obtain ⟨u, h1, h2⟩ := ld_run r hv hb
    exact OpR.val r (u := u) (by simp only [execOp, ho, hu, Instr.loadAt, Instr.sureAddr, Sem.run_bind, Sem.run_pure, Result.andThen_ok, h1]) h2
  | _ => simp [ldV] at hv
theorem sim_store {o : Oper} {t : TypeId} {x y : Operand} {p q : Val} {h' : Hp} (ho : o.op = .store t x y) (r : Rel ρ h w) (hE : EnvR ρ env a) (hx : evO env x = some p) (hy : evO env y = some q) (hv : stV P h t p q = some h') : OpR P ρ h w a o .no h' := by
  have v1 := evO_VR hE hx
  have v2 := evO_VR hE hy
  generalize hu : a.eval x = u1 at v1
  cases v1 with
  | p hb =>
    unfold stV at hv
    simp only at hv
    rw [Option.bind_eq_some_iff] at hv; obtain ⟨n, hn, hv⟩ := hv
    split at hv
    · rename_i hl
      obtain ⟨c1, c2, c3, c4, c5⟩ := r.wrH hb hv v2.cells
      have hs := run_storeCells_cells (P := P) _ _ (a.eval y).cells.toList 0 w (by simpa using c1) (by simpa using c2) c3
      refine ⟨ρ, _, _, undef, ?_, .inr ⟨rfl, rfl⟩, VR.tup (vs := []) rfl (fun j u u' h => by simp at h), c4, c5⟩
      have hsz : (a.eval y).cells.size = n := by have := v2.cells.1; simp at this; omega
      simp only [Nat.add_zero] at hs
      simp only [execOp, ho, hu, Instr.storeAt, Instr.sureAddr, storeVar, Sem.run_bind, Sem.run_pure, Result.andThen_ok, run_sz hn w, hsz, ne_eq, not_true_eq_false, if_false, hs]
    · cases hv
  | _ => simp [stV] at hv
theorem run_newRow (e : TypeId) (cs : Array Value) (w : World) : (newRow e cs).run P w = .ok ⟨w.heap.size, 0, none⟩ (w.alloc (.cells cs e)) := by
  rfl
theorem new_row (r : Rel ρ h w) {z : Nat} {c : List Val} {us : List Value} (e : TypeId) (h1 : c.all Val.one = true) (hv : VRL ρ c us) :
    Rel (ρ.put h.next ⟨w.heap.size, 0, z, c.length, us.length⟩) (h.new (.cells z c)) (w.alloc (.cells us.toArray e)) ∧ Ext ρ h w (ρ.put h.next ⟨w.heap.size, 0, z, c.length, us.length⟩) (h.new (.cells z c)) (w.alloc (.cells us.toArray e)) :=
  r.newCells (fz := (0, 0)) (by simp) (by simp) (fun _ => Nat.le_refl _) h1 (hv.one h1) (by rw [hv.1]; exact Nat.le_refl _) (by rw [hv.1, List.take_length]; exact hv)
theorem put_self (b : Nat) (i : Info) : (ρ.put b i) b = some i := by simp [Ren.put]
theorem sim_allocV {z : Nat} {c : List Val} {us : List Value} {v : Val} {h' : Hp} (r : Rel ρ h w) (e : TypeId) (hv : allocV h z c = some (v, h')) (hr : VRL ρ c us) :
    ∃ ρ' u, u = .pointer (some ⟨w.heap.size, 0, none⟩) ∧ VR ρ' v u ∧ Rel ρ' h' (w.alloc (.cells us.toArray e)) ∧ Ext ρ h w ρ' h' (w.alloc (.cells us.toArray e)) := by
  unfold allocV at hv
  split at hv
  · rename_i h1
    simp only [Option.some.injEq, Prod.mk.injEq] at hv
    obtain ⟨rfl, rfl⟩ := hv
    obtain ⟨h2, h3⟩ := new_row r (z := z) e h1 hr
    exact ⟨_, _, rfl, VR.p (put_self _ _), h2, h3⟩
  · cases hv
theorem sim_alloc {o : Oper} {e : TypeId} {z v : Val} {h' : Hp} (ho : o.op = .alloc e) (r : Rel ρ h w) (hz : zeroV P e = some z) (hv : allocV h z.cells.length z.cells = some (v, h')) : OpR P ρ h w a o v h' := by
  obtain ⟨i, u, h1, h2, h3⟩ := zeroV_some hz
  have hr := (cv_VR (ρ := ρ) h3).cells
  obtain ⟨ρ', u', rfl, q1, q2, q3⟩ := sim_allocV r e hv hr
  refine ⟨ρ', _, _, _, ?_, .inl rfl, q1, q2, q3⟩
  simp only [execOp, ho, Instr.alloc, Sem.run_bind, run_zero h1 h2 w, Result.andThen_ok, newVar, run_newRow, Sem.run_pure, Array.toArray_toList]
theorem sim_box {o : Oper} {e : TypeId} {x : Operand} {z v : Val} {h' : Hp} (ho : o.op = .box e x) (r : Rel ρ h w) (hE : EnvR ρ env a) (hz : evO env x = some z) (hv : allocV h z.cells.length z.cells = some (v, h')) : OpR P ρ h w a o v h' := by
  have hr := (evO_VR hE hz).cells
  obtain ⟨ρ', u', rfl, q1, q2, q3⟩ := sim_allocV r e hv hr
  refine ⟨ρ', _, _, _, ?_, .inl rfl, q1, q2, q3⟩
  simp only [execOp, ho, Instr.box, Sem.run_bind, Result.andThen_ok, newVar, run_newRow, Sem.run_pure, Array.toArray_toList]
theorem putN_cons {α : Type} (L : List α) (o k : Nat) (x : α) (xs : List α) (h : o + k + (xs.length + 1) ≤ L.length) :
    (L.set (o + k) x).take (o + (k + 1)) ++ xs ++ (L.set (o + k) x).drop (o + (k + 1) + xs.length) = L.take (o + k) ++ (x :: xs) ++ L.drop (o + k + (xs.length + 1)) := by
  have e1 : (L.set (o + k) x).take (o + (k + 1)) = L.take (o + k) ++ [x] := by
    rw [← Nat.add_assoc, List.take_add_one, List.take_set_of_le (Nat.le_refl _), List.getElem?_set_self (by omega)]
    rfl
  have e2 : (L.set (o + k) x).drop (o + (k + 1) + xs.length) = L.drop (o + k + (xs.length + 1)) := by
    rw [List.drop_set_of_lt (by omega)]
    congr 1; omega
  rw [e1, e2]
  simp
theorem foldl_put : ∀ (xs : List Value) (o k : Nat) (cs : Array Value), o + k + xs.length ≤ cs.size → ((xs.zipIdx k).foldl (fun cs (q : Value × Nat) => cs.setIfInBounds (o + q.2) q.1) cs).toList = cs.toList.take (o + k) ++ xs ++ cs.toList.drop (o + k + xs.length) := by
  intro xs
  induction xs with
  | nil => intro o k cs h; simp
  | cons x xs ih =>
    intro o k cs h
    obtain ⟨L⟩ := cs
    have hL : o + k + (xs.length + 1) ≤ L.length := h
    simp only [List.zipIdx_cons, List.foldl_cons]
    rw [ih o (k + 1) _ (by rw [Array.size_setIfInBounds]; show o + (k + 1) + xs.length ≤ L.length; omega)]
    rw [Array.toList_setIfInBounds]
    exact putN_cons L o k x xs hL
theorem VRL.putL {cs vs : List Val} {us xs : List Value} (h : VRL ρ cs us) (k : VRL ρ vs xs) (o : Nat) : VRL ρ (putL cs o vs) (us.take o ++ xs ++ us.drop (o + xs.length)) := by
  unfold V.putL
  rw [← k.1]
  exact ((h.take o).append k).append (h.drop _)
theorem sim_fill {pl : Nat → Option (Nat × Nat)} : ∀ {ps : List (Nat × Val)} {qs : List (Nat × Value)} {cs cs' : List Val} {us : List Value}, fillV pl cs ps = some cs' → VRL ρ cs us → ps.length = qs.length → (∀ (j i : Nat) (v : Val) (i' : Nat) (u : Value), ps[j]? = some (i, v) → qs[j]? = some (i', u) → i = i' ∧ VR ρ v u) →
    ∃ us', Instr.fill pl us.toArray qs = some us'.toArray ∧ VRL ρ cs' us'
  | [], [], cs, cs', us, hf, hr, _, _ => ⟨us, rfl, by simp [fillV] at hf; subst hf; exact hr⟩
  | [], _ :: _, _, _, _, _, _, hl, _ => by simp at hl
  | _ :: _, [], _, _, _, _, _, hl, _ => by simp at hl
  | (i, v) :: ps, (i', u) :: qs, cs, cs', us, hf, hr, hl, hv => by
    obtain ⟨rfl, h1⟩ := hv 0 i v i' u rfl rfl
    simp only [fillV] at hf
    rw [Option.bind_eq_some_iff] at hf; obtain ⟨⟨off, size⟩, hp, hf⟩ := hf
    split at hf
    · rename_i hc
      simp only at hc
      have hc1 := h1.cells
      have hk : u.cells.size = size := by have := hc1.1; simp at this; omega
      have hfit : off + 0 + u.cells.toList.length ≤ us.toArray.size := by have := hr.1; have := hc1.1; simp at *; omega
      have hput := foldl_put u.cells.toList off 0 us.toArray hfit
      obtain ⟨us', e1, e2⟩ := sim_fill hf (hr.putL hc1 off) (by simpa using hl) (fun j i v i' u a b => hv (j + 1) i v i' u (by simpa using a) (by simpa using b))
      refine ⟨us', ?_, e2⟩
      rw [← e1]
      simp only [Instr.fill, hp]
      rw [if_neg (by simp; have := hr.1; have := hc1.1; simp at *; omega)]
      congr 1
      apply Array.ext'
      rw [← Array.foldl_toList, Array.toList_zipIdx]
      simpa using hput
    · cases hf
theorem evP_VR (hE : EnvR ρ env a) : ∀ {l : List (Nat × Operand)} {ps : List (Nat × Val)}, evP env l = some ps → ps.length = (l.map fun (i, x) => (i, a.eval x)).length ∧ (∀ (j i : Nat) (v : Val) (i' : Nat) (u : Value), ps[j]? = some (i, v) → (l.map fun (i, x) => (i, a.eval x))[j]? = some (i', u) → i = i' ∧ VR ρ v u) := by
  intro l
  induction l with
  | nil => intro ps h; simp [evP] at h; subst h; exact ⟨rfl, fun j i v i' u h => by simp at h⟩
  | cons x l ih =>
    intro ps h
    simp only [evP, List.mapM_cons, Option.bind_eq_bind, Option.pure_def, Option.bind_eq_some_iff, Option.some.injEq] at h
    obtain ⟨v, h1, us, h2, rfl⟩ := h
    obtain ⟨y, h3, rfl⟩ := Option.map_eq_some_iff.1 h1
    obtain ⟨g1, g2⟩ := ih h2
    refine ⟨by simp at g1 ⊢; exact g1, fun j i v i' u p q => ?_⟩
    cases j with
    | zero => simp at p q; obtain ⟨rfl, rfl⟩ := p; obtain ⟨rfl, rfl⟩ := q; exact ⟨rfl, evO_VR hE h3⟩
    | succ j => exact g2 j i v i' u (by simpa using p) (by simpa using q)
end
end Go.V
namespace Go.V
set_option linter.unusedVariables false
set_option linter.unusedSectionVars false
set_option linter.unusedSimpArgs false
variable [Sy]
section
variable {P : Program} {ρ : Ren} {h : Hp} {w : World} {env : Env} {a : Act}
theorem run_mapM {α β : Type} {f : α → Sem β} {g : α → Option β} (w : World) (hf : ∀ x y, g x = some y → (f x).run P w = .ok y w) : ∀ {l : List α} {r : List β}, l.mapM g = some r → (l.mapM f).run P w = .ok r w := by
  intro l
  induction l with
  | nil => intro r h; simp at h; subst h; simp
  | cons x l ih =>
    intro r h
    simp only [List.mapM_cons, Option.bind_eq_bind, Option.pure_def, Option.bind_eq_some_iff, Option.some.injEq] at h
    obtain ⟨y, h1, ys, h2, rfl⟩ := h
    simp only [List.mapM_cons, Sem.run_bind, hf x y h1, Result.andThen_ok, ih h2, Sem.run_pure]
theorem sim_build {o : Oper} {t : TypeId} {ps : Array (Nat × Operand)} {qs : List (Nat × Val)} {v : Val} (ho : o.op = .build t ps) (r : Rel ρ h w) (hE : EnvR ρ env a) (hp : evP env ps.toList = some qs) (hv : buildV P t qs = some v) : OpR P ρ h w a o v h := by
  obtain ⟨g1, g2⟩ := evP_VR hE hp
  unfold buildV at hv
  rw [Option.bind_eq_some_iff] at hv; obtain ⟨z, hz, hv⟩ := hv
  obtain ⟨i, zu, i1, i2, i3⟩ := zeroV_some hz
  have hzr := (cv_VR (ρ := ρ) i3).cells
  have hparts : (ps.map fun (i, x) => (i, a.eval x)).toList = ps.toList.map fun (i, x) => (i, a.eval x) := by simp
  have hrun : ∀ {u : Value}, (Instr.build t (ps.map fun (i, x) => (i, a.eval x))).run P w = .ok u w → (execOp a.eval o).run P w = .ok (.value u) w := fun h2 => by
    simp only [execOp, ho, Sem.run_bind, h2, Result.andThen_ok, Sem.run_pure]
  split at hv
  · rename_i fs hst
    rw [Option.bind_eq_some_iff] at hv; obtain ⟨pl, hpl, hv⟩ := hv
    obtain ⟨cs, hf, rfl⟩ := Option.map_eq_some_iff.1 hv
    obtain ⟨us, e1, e2⟩ := sim_fill hf hzr g1 g2
    refine OpR.val r (hrun (u := .agg us.toArray) ?_) (.agg e2.1 e2.2)
    have hm := run_mapM (P := P) (f := fun f : Field => (do pure (f.offset, ← sizeOf f.type) : Sem (Nat × Nat))) (g := fun f => (sz P f.type).map fun n => (f.offset, n)) w (fun x y hx => by
      obtain ⟨n, h1, rfl⟩ := Option.map_eq_some_iff.1 hx
      simp [run_sz h1]) hpl
    have hm2 : (fs.mapM fun f => (do pure (f.offset, ← sizeOf f.type) : Sem (Nat × Nat))).run P w = .ok pl.toArray w := by
      rw [← Array.toArray_toList (xs := fs), List.mapM_toArray, Sem.run_map, hm]
      rfl
    simp only [Instr.build, Sem.run_bind, run_zero i1 i2 w, Result.andThen_ok, run_underlying hst w, hm2, hparts]
    have e3 : Instr.fill (fun x => pl.toArray[x]?) zu.cells (ps.toList.map fun (i, x) => (i, a.eval x)) = some us.toArray := by simpa using e1
    rw [e3]
    rfl
  · rename_i n e hst
    rw [Option.bind_eq_some_iff] at hv; obtain ⟨sz', hs, hv⟩ := hv
    obtain ⟨cs, hf, rfl⟩ := Option.map_eq_some_iff.1 hv
    obtain ⟨us, e1, e2⟩ := sim_fill hf hzr g1 g2
    refine OpR.val r (hrun (u := .agg us.toArray) ?_) (.agg e2.1 e2.2)
    simp only [Instr.build, Sem.run_bind, run_zero i1 i2 w, Result.andThen_ok, run_underlying hst w, run_sz hs w, hparts]
    have e3 : Instr.fill (fun i => some (i * sz', sz')) zu.cells (ps.toList.map fun (i, x) => (i, a.eval x)) = some us.toArray := by simpa using e1
    rw [e3]
    rfl
  · cases hv
theorem zerosV_length (z : List Val) (n : Nat) : (zerosV z n).length = n * z.length := by simp [zerosV]
theorem zerosV_get (z : List Val) : ∀ (n j : Nat), j < n * z.length → (zerosV z n)[j]? = z[j % z.length]? := by
  intro n
  induction n with
  | zero => intro j h; omega
  | succ n ih =>
    intro j h
    unfold zerosV at ih ⊢
    rw [List.replicate_succ, List.flatten_cons]
    by_cases hj : j < z.length
    · rw [List.getElem?_append_left hj, Nat.mod_eq_of_lt hj]
    · rw [List.getElem?_append_right (by omega), ih _ (by rw [Nat.succ_mul] at h; omega)]
      congr 1
      exact (Nat.mod_eq_sub_mod (by omega)).symm
theorem zeros_VRL {z : List Val} {zu : Array Value} (hr : VRL ρ z zu.toList) (hz : 0 < z.length) (n : Nat) : VRL ρ (zerosV z n) ((Array.range (n * zu.size)).map fun i => zu[i % zu.size]!).toList := by
  have hl : z.length = zu.size := by simpa using hr.1
  refine ⟨by rw [zerosV_length]; simp [hl], fun j u u' h1 h2 => ?_⟩
  have hj := (List.getElem?_eq_some_iff.1 h1).1
  rw [zerosV_length] at hj
  rw [zerosV_get z n j hj] at h1
  have hm : j % zu.size < zu.size := Nat.mod_lt _ (by omega)
  refine hr.2 (j % z.length) u u' h1 ?_
  rw [hl] at hj ⊢
  have h3 : (Array.range (n * zu.size))[j]? = some j := by simp [hj]
  have h4 : some (zu[j % zu.size]!) = some u' := by
    rw [← h2]
    simp [hj]
  rw [← h4, getElem!_pos zu _ hm]
  simp [hm]
theorem zerosV_one {z : List Val} (h : z.all Val.one = true) (n : Nat) : (zerosV z n).all Val.one = true := by
  simp only [zerosV, List.all_flatten, List.all_replicate]
  split
  · rfl
  · exact h
theorem sim_row {z len : Nat} {cap : Option Nat} {c : List Val} {us : List Value} {v : Val} {h' : Hp} (r : Rel ρ h w) (e : TypeId) (hv : rowV h z c len cap = some (v, h')) (hr : VRL ρ c us) (k : Nat) (hk : cap = some k ∧ len ≤ k) :
    ∃ ρ' u, u = .slice (some ⟨w.heap.size, 0, none⟩) len k ∧ VR ρ' v u ∧ Rel ρ' h' (w.alloc (.cells us.toArray e)) ∧ Ext ρ h w ρ' h' (w.alloc (.cells us.toArray e)) := by
  unfold rowV at hv
  split at hv
  · rename_i h1
    simp only [Option.some.injEq, Prod.mk.injEq] at hv
    obtain ⟨rfl, rfl⟩ := hv
    obtain ⟨h2, h3⟩ := new_row r (z := z) e h1 hr
    obtain ⟨rfl, hk⟩ := hk
    exact ⟨_, _, rfl, VR.sk (put_self _ _) hk, h2, h3⟩
  · cases hv
theorem sim_buildSlice {o : Oper} {t : TypeId} {n : Nat} {ps : Array (Nat × Operand)} {qs : List (Nat × Val)} {v : Val} {h' : Hp} (ho : o.op = .buildSlice t n ps) (r : Rel ρ h w) (hE : EnvR ρ env a) (hp : evP env ps.toList = some qs) (hv : buildSliceV P h t n qs = some (v, h')) :
    OpR P ρ h w a o v h' := by
  obtain ⟨g1, g2⟩ := evP_VR hE hp
  unfold buildSliceV at hv
  split at hv
  · rename_i e hst
    rw [Option.bind_eq_some_iff] at hv; obtain ⟨z, hs, hv⟩ := hv
    rw [Option.bind_eq_some_iff] at hv; obtain ⟨zv, hz, hv⟩ := hv
    split at hv
    · rename_i hc
      obtain ⟨c1, c2, c3⟩ := hc
      rw [Option.bind_eq_some_iff] at hv; obtain ⟨cs, hf, hv⟩ := hv
      obtain ⟨i, zu, i1, i2, i3⟩ := zeroV_some hz
      have hzr := (cv_VR (ρ := ρ) i3).cells
      have hzs : zu.cells.size = z := by have := hzr.1; simp at this; omega
      have hzz := zeros_VRL hzr (by omega) n
      rw [hzs] at hzz
      obtain ⟨us, e1, e2⟩ := sim_fill hf hzz g1 g2
      obtain ⟨ρ', u, rfl, q1, q2, q3⟩ := sim_row r e hv e2 n ⟨rfl, Nat.le_refl _⟩
      refine ⟨ρ', _, _, _, ?_, .inl rfl, q1, q2, q3⟩
      have hparts : (ps.map fun (i, x) => (i, a.eval x)).toList = ps.toList.map fun (i, x) => (i, a.eval x) := by simp
      have e3 : ∀ zero : Array Value, (n * z ≠ 0 → zero = zu.cells) → Instr.fill (fun i => some (i * z, z)) ((Array.range (n * z)).map fun x => zero[x % zero.size]!) (ps.toList.map fun (i, x) => (i, a.eval x)) = some us.toArray := fun zero h0 => by
        rw [← e1]
        congr 1
        by_cases hn : n * z = 0
        · rw [hn]; apply Array.ext'; simp
        · rw [h0 hn, hzs, Array.toArray_toList]
      simp only [execOp, ho, Instr.buildSlice, Sem.run_bind, run_underlying hst w, Result.andThen_ok, run_sz hs w]
      rw [if_neg (by omega)]
      by_cases h0 : n * z = 0
      · rw [if_pos h0]
        simp only [Sem.run_bind, Sem.run_pure, Result.andThen_ok, hparts, e3 #[] (fun q => absurd h0 q), run_newRow]
      · rw [if_neg h0]
        simp only [Sem.run_bind, Sem.run_pure, Result.andThen_ok, hparts, run_zero i1 i2 w, e3 zu.cells (fun _ => rfl), run_newRow]
    · cases hv
  · cases hv
theorem wrap_id {n : Nat} (hn : n ≤ 2 ^ 40) : IntKind.i64.wrap (n : Int) = n := by
  have h1 : ((n : Int) % (2 ^ 64 : Int)) = n := Int.emod_eq_of_lt (by omega) (by omega)
  show (if (true && decide ((n : Int) % (2 ^ 64 : Int) ≥ (2 ^ 63 : Int))) = true then (n : Int) % (2 ^ 64 : Int) - (2 ^ 64 : Int) else (n : Int) % (2 ^ 64 : Int)) = n
  rw [h1, if_neg]
  simp only [Bool.true_and, decide_eq_true_eq]
  omega
theorem sim_makeSlice {o : Oper} {t : TypeId} {x y : Operand} {p q v : Val} {h' : Hp} (ho : o.op = .makeSlice t x y) (r : Rel ρ h w) (hE : EnvR ρ env a) (hx : evO env x = some p) (hy : evO env y = some q) (hv : makeSliceV P h t p q = some (v, h')) : OpR P ρ h w a o v h' := by
  have v1 := evO_VR hE hx
  have v2 := evO_VR hE hy
  unfold makeSliceV at hv
  split at hv
  · rename_i e hst
    rw [Option.bind_eq_some_iff] at hv; obtain ⟨z, hs, hv⟩ := hv
    rw [Option.bind_eq_some_iff] at hv; obtain ⟨zv, hz, hv⟩ := hv
    rw [Option.bind_eq_some_iff] at hv; obtain ⟨l, hl, hv⟩ := hv
    rw [Option.bind_eq_some_iff] at hv; obtain ⟨c, hc, hv⟩ := hv
    rw [Option.bind_eq_some_iff] at hv; obtain ⟨inf, hi, hv⟩ := hv
    obtain ⟨k1, rfl, l1⟩ := natV_some hl
    obtain ⟨k2, rfl, l2⟩ := natV_some hc
    generalize hu1 : a.eval x = u1 at v1
    generalize hu2 : a.eval y = u2 at v2
    cases v1; cases v2
    split at hv
    · rename_i hcc
      obtain ⟨c1, c2, c3, c4⟩ := hcc
      obtain ⟨i, zu, i1, i2, i3⟩ := zeroV_some hz
      have hii : i = inf := by rw [i1] at hi; exact Option.some.inj hi
      subst hii
      have hzr := (cv_VR (ρ := ρ) i3).cells
      have hzs : zu.cells.size = z := by have := hzr.1; simp at this; omega
      have hzz := zeros_VRL hzr (by omega) c
      rw [hzs] at hzz
      obtain ⟨ρ', u, rfl, q1, q2, q3⟩ := sim_row r e hv hzz c ⟨rfl, c1⟩
      refine ⟨ρ', _, _, _, ?_, .inl rfl, q1, q2, q3⟩
      have hroom : ∀ b, (askRoom b).run P w = .ok () w := fun b => by
        unfold askRoom; split <;> rfl
      have t1 : ¬ (((c : Int) < 0 || (i.bytes : Int) * c > 2 ^ 48) || (l : Int) < 0 || (l : Int) > c) = true := by
        have : ((i.bytes : Int) * c) = ((i.bytes * c : Nat) : Int) := by simp
        simp only [Bool.or_eq_true, decide_eq_true_eq, this]
        omega
      simp only [execOp, ho, hu1, hu2, Instr.makeSlice, asInt, asIntOf, Sem.run_bind, run_underlying hst w, Result.andThen_ok, Sem.run_pure, typeInfo, run_program, hi, wrap_id l1, wrap_id l2]
      rw [if_neg t1]
      have e3 : ∀ zero : Array Value, (c * z ≠ 0 → zero = zu.cells) → ((Array.range (c * z)).map fun x => zero[x % zero.size]!) = (((Array.range (c * z)).map fun i => zu.cells[i % z]!).toList).toArray := fun zero h0 => by
        rw [Array.toArray_toList]
        by_cases hn : c * z = 0
        · rw [hn]; apply Array.ext'; simp
        · rw [h0 hn, hzs]
      simp only [Sem.run_bind, Sem.run_pure, Result.andThen_ok, hroom, run_sz hs w, Int.toNat_natCast]
      by_cases h0 : c * z = 0
      · rw [if_pos h0]
        simp only [Sem.run_bind, Sem.run_pure, Result.andThen_ok, e3 #[] (fun q => absurd h0 q), run_newRow]
      · rw [if_neg h0]
        simp only [Sem.run_bind, Sem.run_pure, Result.andThen_ok, run_zero i1 i2 w, e3 zu.cells (fun _ => rfl), run_newRow]
    · cases hv
  · cases hv
end
end Go.V
namespace Go.V
set_option linter.unusedVariables false
set_option linter.unusedSectionVars false
set_option linter.unusedSimpArgs false
variable [Sy]
section
variable {P : Program} {ρ : Ren} {h : Hp} {w : World} {env : Env} {a : Act}
def OptR (ρ : Ren) : Option Val → Option Value → Prop
  | none, none => True
  | some v, some u => VR ρ v u
  | _, _ => False
theorem evQ_VR (hE : EnvR ρ env a) {x : Option Operand} {v : Option Val} (hx : evQ env x = some v) : OptR ρ v (x.map a.eval) := by
  cases x with
  | none => obtain rfl := Option.some.inj hx; trivial
  | some x => obtain ⟨u, h1, rfl⟩ := Option.map_eq_some_iff.1 hx; exact evO_VR hE h1
theorem run_bound {v : Val} {u : Value} {n y : Nat} (hv : natI v = some n) (hr : VR ρ v u) (hy : n ≤ y) (c : BoundsCode) (w : World) : (Instr.sliceBound u y c).run P w = .ok n w := by
  obtain ⟨k, rfl⟩ := natI_some hv
  cases hr
  simp only [Instr.sliceBound, asIntOf, Sem.run_bind, Sem.run_pure, Result.andThen_ok]
  rw [if_pos ⟨by omega, by omega⟩]
  simp
theorem run_bnd {len cap cap' l hh m : Nat} {lo hi mx : Option Val} {lo' hi' mx' : Option Value} (hb : bndV len cap lo hi mx = some (l, hh, m)) (hc : cap ≤ cap') (r1 : OptR ρ lo lo') (r2 : OptR ρ hi hi') (r3 : OptR ρ mx mx') (isS : Bool) (w : World) :
    (Instr.sliceBounds isS len cap' lo' hi' mx').run P w = .ok (l, hh, if mx.isSome then m else cap') w := by
  unfold bndV at hb
  rw [Option.bind_eq_some_iff] at hb; obtain ⟨m0, h1, hb⟩ := hb
  rw [Option.bind_eq_some_iff] at hb; obtain ⟨h0, h2, hb⟩ := hb
  rw [Option.bind_eq_some_iff] at hb; obtain ⟨l0, h3, hb⟩ := hb
  split at hb
  · rename_i hle
    simp only [Option.some.injEq, Prod.mk.injEq] at hb
    obtain ⟨rfl, rfl, rfl⟩ := hb
    obtain ⟨c1, c2, c3, c4⟩ := hle
    cases mx with
    | none =>
      cases mx' with
      | some u => exact r3.elim
      | none =>
        obtain rfl := Option.some.inj h1
        have hl : ∀ (code : BoundsCode), (match lo' with | some v => Instr.sliceBound v h0 code | none => (pure 0 : Sem Nat)).run P w = .ok l0 w := fun code => by
          cases lo with
          | none => cases lo' with
            | some u => exact r1.elim
            | none => obtain rfl := Option.some.inj h3; rfl
          | some v => cases lo' with
            | none => exact r1.elim
            | some u => exact run_bound h3 r1 c3 code w
        cases hi with
        | none => cases hi' with
          | some u => exact r2.elim
          | none =>
            obtain rfl := Option.some.inj h2
            simp only [Instr.sliceBounds, Sem.run_bind, Sem.run_pure, Result.andThen_ok]
            have := hl (if (none : Option Value).isSome then BoundsCode.slice3C else .sliceB)
            cases lo' <;> simp only [Sem.run_bind, Sem.run_pure, Result.andThen_ok] at this ⊢ <;> first | (rw [this]; rfl) | (injection this with e _; subst e; rfl)
        | some v => cases hi' with
          | none => exact r2.elim
          | some u =>
            have hh := run_bound (P := P) h2 r2 (y := cap') (by omega) (if isS then BoundsCode.sliceAcap else .sliceAlen) w
            simp only [Instr.sliceBounds, Sem.run_bind, Sem.run_pure, Result.andThen_ok, hh]
            have := hl (if (none : Option Value).isSome then BoundsCode.slice3C else .sliceB)
            cases lo' <;> simp only [Sem.run_bind, Sem.run_pure, Result.andThen_ok] at this ⊢ <;> first | (rw [this]; rfl) | (injection this with e _; subst e; rfl)
    | some mv =>
      cases mx' with
      | none => exact r3.elim
      | some mu =>
        have hm := run_bound (P := P) h1 r3 (y := cap') (by omega) (if isS then BoundsCode.slice3Acap else .slice3Alen) w
        cases hi with
        | none => exact absurd (c4 rfl) (by simp)
        | some v => cases hi' with
          | none => exact r2.elim
          | some u =>
            have hh := run_bound (P := P) h2 r2 (y := m0) c2 BoundsCode.slice3B w
            have hl : ∀ (code : BoundsCode), (match lo' with | some v => Instr.sliceBound v h0 code | none => (pure 0 : Sem Nat)).run P w = .ok l0 w := fun code => by
              cases lo with
              | none => cases lo' with
                | some u => exact r1.elim
                | none => obtain rfl := Option.some.inj h3; rfl
              | some v => cases lo' with
                | none => exact r1.elim
                | some u => exact run_bound h3 r1 c3 code w
            simp only [Instr.sliceBounds, Sem.run_bind, Sem.run_pure, Result.andThen_ok, hm, hh]
            have := hl (if (some mu).isSome then BoundsCode.slice3C else .sliceB)
            cases lo' <;> simp only [Sem.run_bind, Sem.run_pure, Result.andThen_ok] at this ⊢ <;> first | (rw [this]; rfl) | (injection this with e _; subst e; rfl)
  · cases hb
theorem ba_cut (s : List UInt8) (l hh : Nat) : (⟨s.toArray⟩ : ByteArray).extract l hh = ⟨((s.drop l).take (hh - l)).toArray⟩ := by
  apply ByteArray.ext
  simp
theorem bnd_le {len cap l hh m : Nat} {lo hi mx : Option Val} (hb : bndV len cap lo hi mx = some (l, hh, m)) : m ≤ cap ∧ hh ≤ m ∧ l ≤ hh := by
  unfold bndV at hb
  rw [Option.bind_eq_some_iff] at hb; obtain ⟨m0, h1, hb⟩ := hb
  rw [Option.bind_eq_some_iff] at hb; obtain ⟨h0, h2, hb⟩ := hb
  rw [Option.bind_eq_some_iff] at hb; obtain ⟨l0, h3, hb⟩ := hb
  split at hb
  · rename_i hle
    simp only [Option.some.injEq, Prod.mk.injEq] at hb
    obtain ⟨rfl, rfl, rfl⟩ := hb
    exact ⟨hle.1, hle.2.1, hle.2.2.1⟩
  · cases hb
theorem bnd_mx {len cap l hh m : Nat} {lo hi : Option Val} (hb : bndV len cap lo hi none = some (l, hh, m)) : m = cap := by
  unfold bndV at hb
  rw [Option.bind_eq_some_iff] at hb; obtain ⟨m0, h1, hb⟩ := hb
  rw [Option.bind_eq_some_iff] at hb; obtain ⟨h0, h2, hb⟩ := hb
  rw [Option.bind_eq_some_iff] at hb; obtain ⟨l0, h3, hb⟩ := hb
  split at hb
  · simp only [Option.some.injEq, Prod.mk.injEq] at hb
    obtain ⟨rfl, rfl, rfl⟩ := hb
    exact (Option.some.inj h1).symm
  · cases hb
theorem sim_slice {o : Oper} {t : TypeId} {x : Operand} {lo hi mx : Option Operand} {p v : Val} {lv hv' mv : Option Val} (ho : o.op = .slice t x lo hi mx) (r : Rel ρ h w) (hE : EnvR ρ env a) (hx : evO env x = some p) (hl : evQ env lo = some lv) (hh : evQ env hi = some hv') (hm : evQ env mx = some mv)
    (hv : sliceV P t p lv hv' mv = some v) : OpR P ρ h w a o v h := by
  have v1 := evO_VR hE hx
  have r1 := evQ_VR hE hl
  have r2 := evQ_VR hE hh
  have r3 := evQ_VR hE hm
  generalize hu1 : a.eval x = u1 at v1
  have hrun : ∀ {u : Value}, (Instr.sliceAt t u1 (lo.map a.eval) (hi.map a.eval) (mx.map a.eval)).run P w = .ok u w → (execOp a.eval o).run P w = .ok (.value u) w := fun h2 => by
    simp only [execOp, ho, hu1, Sem.run_bind, Result.andThen_ok, h2, Sem.run_pure]
  generalize lo.map a.eval = lu at r1 hrun
  generalize hi.map a.eval = hu at r2 hrun
  generalize mx.map a.eval = mu at r3 hrun
  unfold sliceV at hv
  split at hv
  · rename_i s hst
    split at hv
    · cases hv
    · rename_i hmx
      cases mv with
      | some _ => simp at hmx
      | none =>
        cases mu with
        | some _ => exact r3.elim
        | none =>
          obtain ⟨⟨l, hh, m⟩, hb, rfl⟩ := Option.map_eq_some_iff.1 hv
          cases v1
          have hs : (⟨s.toArray⟩ : ByteArray).size = s.length := by simp [ByteArray.size]
          have := run_bnd (P := P) hb (Nat.le_refl _) r1 r2 r3 false w
          refine OpR.val r (hrun (u := .string ((⟨s.toArray⟩ : ByteArray).extract l hh)) ?_) (by rw [ba_cut]; exact VR.s _)
          simp only [Instr.sliceAt, strVal', Instr.slice, Sem.run_bind, run_underlying hst w, Result.andThen_ok, Option.isSome_none, Bool.false_eq_true, if_false, hs, this, Sem.run_pure]
  · rename_i e ao len k hst
    rw [Option.bind_eq_some_iff] at hv; obtain ⟨z, hz, hv⟩ := hv
    obtain ⟨⟨l, hh, m⟩, hb, rfl⟩ := Option.map_eq_some_iff.1 hv
    have hbb := run_bnd (P := P) hb (Nat.le_refl _) r1 r2 r3 true w
    have hle := bnd_le hb
    have hm' : (if mv.isSome then m else k) = m := by
      cases mv with
      | some _ => rfl
      | none => exact (bnd_mx hb).symm
    rw [hm'] at hbb
    cases v1 with
    | sn =>
      have e1 : l = 0 ∧ hh = 0 ∧ m = 0 := by omega
      obtain ⟨rfl, rfl, rfl⟩ := e1
      refine OpR.val r (hrun (u := .slice none 0 0) ?_) .sn
      simp only [Instr.sliceAt, Instr.slice, Sem.run_bind, run_underlying hst w, Result.andThen_ok, hbb, run_sz hz w, Sem.run_pure]
      rfl
    | sk hb' hlk =>
      rename_i b off i'
      refine OpR.val r (hrun (u := .slice (if m = l then some ⟨i'.g, i'.base + off, none⟩ else (some (⟨i'.g, i'.base + off, none⟩ : Addr)).map (·.add (l * z))) (hh - l) (m - l)) ?_) ?_
      · simp only [Instr.sliceAt, Instr.slice, Sem.run_bind, run_underlying hst w, Result.andThen_ok, hbb, run_sz hz w, Sem.run_pure]
      · by_cases hml : m = l
        · simp only [hml, if_true]
          exact VR.sk hb' (by omega)
        · simp only [hml, if_false, Option.map_some, add_lit, Nat.add_assoc]
          exact VR.sk hb' (by omega)
  · rename_i e b off len zs mm hst
    rw [Option.bind_eq_some_iff] at hv; obtain ⟨z, hz, hv⟩ := hv
    obtain ⟨⟨l, hh, m⟩, hb, rfl⟩ := Option.map_eq_some_iff.1 hv
    split at hb
    case isFalse => cases hb
    rename_i hst2
    have hle := bnd_le hb
    cases v1 with
    | so hb' hl0 hlk q1 q2 =>
      rename_i c i'
      subst hst2
      have hbb := run_bnd (P := P) hb hlk r1 r2 r3 true w
      have hrun2 : OpR P ρ h w a o (if mv.isSome then .sl (some (if m = l then (b, off) else (b, off + l * i'.z))) (hh - l) (.k (m - l)) else if l < mm then .sl (some (b, off + l * i'.z)) (hh - l) (.op i'.z (mm - l)) else .es) h := by
        refine OpR.val r (hrun (u := .slice (if (if mv.isSome then m else c) = l then some ⟨i'.g, i'.base + off, none⟩ else (some (⟨i'.g, i'.base + off, none⟩ : Addr)).map (·.add (l * i'.z))) (hh - l) ((if mv.isSome then m else c) - l)) ?_) ?_
        · simp only [Instr.sliceAt, Instr.slice, Sem.run_bind, run_underlying hst w, Result.andThen_ok, hbb, run_sz hz w, Sem.run_pure]
        · cases hmv : mv.isSome
          · simp only [Bool.false_eq_true, if_false]
            by_cases hl : l < mm
            · rw [if_pos hl, if_neg (by omega)]
              simp only [Option.map_some, add_lit, Nat.add_assoc]
              have e2 : l * i'.z + (c - l) * i'.z = c * i'.z := by rw [← Nat.add_mul]; congr 1; omega
              refine VR.so hb' (by omega) (by omega) ?_ ?_
              · rw [Nat.add_assoc, e2]; exact q1
              · rw [show i'.base + (off + l * i'.z) + (c - l) * i'.z = i'.base + off + (l * i'.z + (c - l) * i'.z) by omega, e2]; exact q2
            · rw [if_neg hl]
              have e1 : hh - l = 0 := by omega
              rw [e1]
              split
              · exact VR.es
              · exact VR.es
          · simp only [if_true]
            by_cases hml : m = l
            · simp only [hml, if_true]
              exact VR.sk hb' (by omega)
            · simp only [hml, if_false, Option.map_some, add_lit, Nat.add_assoc]
              exact VR.sk hb' (by omega)
      exact hrun2
  · rename_i e hst
    rw [Option.bind_eq_some_iff] at hv; obtain ⟨z, hz, hv⟩ := hv
    obtain ⟨⟨l, hh, m⟩, hb, rfl⟩ := Option.map_eq_some_iff.1 hv
    have hle := bnd_le hb
    cases v1 with
    | es =>
      rename_i ad c
      have hbb := run_bnd (P := P) hb (Nat.zero_le c) r1 r2 r3 true w
      have e1 : l = 0 ∧ hh = 0 ∧ m = 0 := by omega
      obtain ⟨rfl, rfl, rfl⟩ := e1
      refine OpR.val r (hrun (u := .slice (if (if mv.isSome then 0 else c) = 0 then some ad else (some ad).map (·.add (0 * z))) 0 ((if mv.isSome then 0 else c) - 0)) ?_) ?_
      · simp only [Instr.sliceAt, Instr.slice, Sem.run_bind, run_underlying hst w, Result.andThen_ok, hbb, run_sz hz w, Sem.run_pure, Nat.sub_zero]
      · generalize (if mv.isSome then 0 else c) = q
        by_cases hq : q = 0
        · rw [if_pos hq]; exact VR.es
        · rw [if_neg hq]; exact VR.es
  · rename_i n e b off hst
    rw [Option.bind_eq_some_iff] at hv; obtain ⟨z, hz, hv⟩ := hv
    obtain ⟨⟨l, hh, m⟩, hb, rfl⟩ := Option.map_eq_some_iff.1 hv
    have hbb := run_bnd (P := P) hb (Nat.le_refl _) r1 r2 r3 false w
    have hle := bnd_le hb
    have hm' : (if mv.isSome then m else n) = m := by
      cases mv with
      | some _ => rfl
      | none => exact (bnd_mx hb).symm
    rw [hm'] at hbb
    cases v1 with
    | p hb' =>
      rename_i i'
      refine OpR.val r (hrun (u := .slice (some (if m = l then ⟨i'.g, i'.base + off, none⟩ else (⟨i'.g, i'.base + off, none⟩ : Addr).add (l * z))) (hh - l) (m - l)) ?_) ?_
      · simp only [Instr.sliceAt, Instr.sureAddr, Sem.run_bind, run_underlying hst w, Result.andThen_ok, hbb, run_sz hz w, Sem.run_pure]
      · by_cases hml : m = l
        · simp only [hml, if_true]
          exact VR.sk hb' (by omega)
        · simp only [hml, if_false, add_lit, Nat.add_assoc]
          exact VR.sk hb' (by omega)
  · rename_i arr b off hst
    split at hv
    · rename_i n e hst2
      rw [Option.bind_eq_some_iff] at hv; obtain ⟨z, hz, hv⟩ := hv
      obtain ⟨⟨l, hh, m⟩, hb, rfl⟩ := Option.map_eq_some_iff.1 hv
      have hbb := run_bnd (P := P) hb (Nat.le_refl _) r1 r2 r3 false w
      have hle := bnd_le hb
      have hm' : (if mv.isSome then m else n) = m := by
        cases mv with
        | some _ => rfl
        | none => exact (bnd_mx hb).symm
      rw [hm'] at hbb
      cases v1 with
      | p hb' =>
        rename_i i'
        refine OpR.val r (hrun (u := .slice (some (if m = l then ⟨i'.g, i'.base + off, none⟩ else (⟨i'.g, i'.base + off, none⟩ : Addr).add (l * z))) (hh - l) (m - l)) ?_) ?_
        · simp only [Instr.sliceAt, Instr.slice, asAddr, Sem.run_bind, run_underlying hst w, run_underlying hst2 w, Result.andThen_ok, hbb, run_sz hz w, Sem.run_pure]
        · by_cases hml : m = l
          · simp only [hml, if_true]
            exact VR.sk hb' (by omega)
          · simp only [hml, if_false, add_lit, Nat.add_assoc]
            exact VR.sk hb' (by omega)
    · cases hv
  · cases hv
end
end Go.V
namespace Go.V
set_option linter.unusedVariables false
set_option linter.unusedSectionVars false
set_option linter.unusedSimpArgs false
variable [Sy]
section
variable {P : Program} {ρ : Ren} {h : Hp} {w : World} {env : Env} {a : Act}
theorem has_kill {p : Blk → Bool} (hp : p .dead = false) {b k : Nat} : has p (h.set b .dead) k → has p h k := fun ⟨B, q1, q2⟩ => by
  rw [Hp.get_set] at q1
  split at q1
  · obtain rfl := Option.some.inj q1; rw [hp] at q2; cases q2
  · exact ⟨B, q1, q2⟩
theorem Rel.kill (r : Rel ρ h w) {b : Nat} {i : Info} (hb : ρ b = some i) : Rel ρ (h.set b .dead) w ∧ Ext ρ h w ρ (h.set b .dead) w := by
  refine ⟨⟨r.dom, fun b' i' B' e f => ?_, fun b1 b2 i1 i2 e1 e2 l1 l2 => ?_, fun k hk => by
      have hbn := (r.dom b i hb).1
      have hk' : h.next ≤ k := hk
      rw [Hp.get_set, if_neg (by omega)]; exact r.wf k hk'⟩, Ren.le.refl _, Nat.le_refl _, fun b' hb' hl => ⟨hb', ?_⟩, Nat.le_refl _, fun g _ hg => ⟨rfl, fun b' i' e q => hg b' i' e (has_kill rfl q)⟩, rfl, rfl, rfl, Nat.le_refl _⟩
  · rw [Hp.get_set] at f
    split at f
    · obtain rfl := Option.some.inj f; trivial
    · exact r.blk b' i' B' e f
  · have lv : ∀ (p : Blk → Bool), p .dead = false → ∀ k, has p (h.set b .dead) k → has p h k := fun p hp k ⟨B, q1, q2⟩ => by
      rw [Hp.get_set] at q1
      split at q1
      · obtain rfl := Option.some.inj q1; rw [hp] at q2; cases q2
      · exact ⟨B, q1, q2⟩
    exact r.inj b1 b2 i1 i2 e1 e2 (lv _ rfl _ l1) (lv _ rfl _ l2)
  · rw [Hp.get_set, if_neg (fun e => by rw [e, hb] at hb'; cases hb')]
theorem Rel.newIn (r : Rel ρ h w) {b p z n N base : Nat} {i : Info} {c : List Val} {us : List Value} {z0 : Nat} {d : List Val} (hb : ρ b = some i) (hlive : h.get b = some (.cells z0 d)) (h1 : c.all Val.one = true)
    (hN : base + c.length ≤ N) (hus : ∀ u ∈ us, u.oneCell' = true) (hfz : Fz z w i.g) (hc : ∀ o, o < N → ((w.setCells i.g p us).cell? ⟨i.g, o, none⟩).isSome = true ∧ (w.setCells i.g p us).frozen? ⟨i.g, o, none⟩ = false)
    (hv : ∀ j u, c[j]? = some u → ∃ u', (w.setCells i.g p us).cell? ⟨i.g, base + j, none⟩ = some u' ∧ VR ρ u u') :
    Rel (ρ.put h.next ⟨i.g, base, z, c.length, N⟩) ((h.set b .dead).new (.cells z c)) (w.setCells i.g p us) ∧ Ext ρ h w (ρ.put h.next ⟨i.g, base, z, c.length, N⟩) ((h.set b .dead).new (.cells z c)) (w.setCells i.g p us) := by
  have hfree := r.free
  have hle := Ren.le_put (ρ := ρ) (b := h.next) ⟨i.g, base, z, c.length, N⟩ hfree
  have hput : ∀ b' i', (ρ.put h.next ⟨i.g, base, z, c.length, N⟩) b' = some i' → (b' = h.next ∧ i' = ⟨i.g, base, z, c.length, N⟩) ∨ (b' ≠ h.next ∧ ρ b' = some i') := fun b' i' e => by
    unfold Ren.put at e
    split at e
    · rename_i hb'; exact .inl ⟨hb', (Option.some.inj e).symm⟩
    · rename_i hb'; exact .inr ⟨hb', e⟩
  have hbn : b ≠ h.next := fun e => by rw [e, hfree] at hb; cases hb
  have hnext : (h.set b .dead).next = h.next := rfl
  have hget : ∀ k, ((h.set b .dead).new (.cells z c)).get k = if k = h.next then some (.cells z c) else if k = b then some .dead else h.get k := fun k => by
    rw [Hp.get_new, hnext, Hp.get_set]
  have hdom := r.dom b i hb
  have lv : ∀ (p : Blk → Bool), p .dead = false → ∀ k, k ≠ h.next → has p ((h.set b .dead).new (.cells z c)) k → k ≠ b ∧ has p h k := fun p hp k hk ⟨B, q1, q2⟩ => by
    rw [hget, if_neg hk] at q1
    split at q1
    · obtain rfl := Option.some.inj q1; rw [hp] at q2; cases q2
    · exact ⟨by assumption, B, q1, q2⟩
  have hne : ∀ k i', k ≠ b → ρ k = some i' → live h k → i'.g ≠ i.g := fun k i' hk e l eg => hk (r.inj k b i' i e hb l ⟨_, hlive, by simp⟩ eg)
  obtain ⟨o1, o2, o3, o4⟩ := os_setCells i.g us p w
  refine ⟨⟨fun b' i' e => ?_, fun b' i' B' e f => ?_, fun b1 b2 i1 i2 e1 e2 l1 l2 hg => ?_, fun k hk => by
      have hk' : h.next + 1 ≤ k := hk
      rw [hget, if_neg (by omega), if_neg (by have := hdom.1; omega)]; exact r.wf k (by omega)⟩, hle, Nat.le_succ _, fun b' hb' hl => ⟨?_, ?_⟩, by rw [size_setCells]; exact Nat.le_refl _, fun g hg hn => ⟨heap_setCells _ _ _ _ _ (fun e => hn b i hb ⟨_, hlive, rfl⟩ e.symm), fun b' i' e q => ?_⟩, o1, o2, o3, by rw [o4]; exact Nat.le_refl _⟩
  · rw [size_setCells]
    rcases hput b' i' e with ⟨rfl, rfl⟩ | ⟨_, e⟩
    · exact ⟨Nat.lt_succ_self _, hdom.2⟩
    · have := r.dom b' i' e; exact ⟨Nat.lt_succ_of_lt this.1, this.2⟩
  · rw [hget] at f
    rcases hput b' i' e with ⟨rfl, rfl⟩ | ⟨hk, e⟩
    · rw [if_pos rfl] at f
      obtain rfl := Option.some.inj f
      exact ⟨rfl, rfl, hN, h1, ⟨hc, fz_setCells _ _ _ _ _ hus hfz⟩, fun j u hj => by obtain ⟨u', q1, q2⟩ := hv j u hj; exact ⟨u', q1, q2.mono hle⟩⟩
    · rw [if_neg hk] at f
      split at f
      · obtain rfl := Option.some.inj f; trivial
      · rename_i hkb
        have hB := r.blk b' i' B' e f
        cases B' with
        | dead => trivial
        | cells z' c' => exact hB.congr hle (heap_setCells _ _ _ _ _ (hne b' i' hkb e ⟨_, f, by simp⟩))
        | ro c' => exact hB.congr hle (heap_setCells _ _ _ _ _ (hne b' i' hkb e ⟨_, f, by simp⟩))
        | map ck es => exact hB.congr hle (heap_setCells _ _ _ _ _ (hne b' i' hkb e ⟨_, f, by simp⟩))
  · rcases hput b1 i1 e1 with ⟨rfl, rfl⟩ | ⟨k1, e1⟩ <;> rcases hput b2 i2 e2 with ⟨rfl, rfl⟩ | ⟨k2, e2⟩
    · rfl
    · obtain ⟨q1, q2⟩ := lv _ rfl b2 k2 l2; exact absurd hg.symm (hne b2 i2 q1 e2 (own.live q2))
    · obtain ⟨q1, q2⟩ := lv _ rfl b1 k1 l1; exact absurd hg (hne b1 i1 q1 e1 q2)
    · exact r.inj b1 b2 i1 i2 e1 e2 (lv _ rfl b1 k1 l1).2 (lv _ rfl b2 k2 l2).2 hg
  · unfold Ren.put; rw [if_neg (by omega)]; exact hb'
  · rw [hget, if_neg (by omega), if_neg (fun e => by rw [e, hb] at hb'; cases hb')]
  · rcases hput b' i' e with ⟨rfl, rfl⟩ | ⟨hk, e⟩
    · exact hn b i hb ⟨_, hlive, rfl⟩
    · exact hn b' i' e (lv _ rfl b' hk q).2
structure More (P : Program) (e : TypeId) (i : TypeInfo) (tx : TypeId) (x : Value) (n : Nat) (news : List Value) (w : World) : Prop where
  how : Src P i.size tx x n news w ∨ ∃ (kn k : IntKind) (z : Value), P.underlying tx = some (.int kn) ∧ x = .int k n ∧ i.zero = some z ∧ news = (Builtin.zeroCells z.cells n).toList ∧ 0 < i.size
  one : ∀ u ∈ news, u.oneCell' = true
  len : news.length = n * i.size
theorem run_more_room {t tx ty e : TypeId} {i : TypeInfo} (ht : P.underlying t = some (.slice e)) (hi : P.info? e = some i) {b off sLen sCap : Nat} {x : Value} {n : Nat} {news : List Value} (hs : More P e i tx x n news w) (hn40 : n ≤ 2 ^ 30) (hby : i.bytes ≤ 2 ^ 12)
    (hroom : sLen + n ≤ sCap) (hc : ∀ j, j < news.length → (w.cell? ⟨b, off + sLen * i.size + j, none⟩).isSome = true) (hf : ∀ j, j < news.length → w.frozen? ⟨b, off + sLen * i.size + j, none⟩ = false) :
    (Builtin.append_ #[t, tx] ty #[.slice (some ⟨b, off, none⟩) sLen sCap, x]).run P w = .ok (.slice (some ⟨b, off, none⟩) (sLen + n) sCap) (w.setCells b (off + sLen * i.size) news) := by
  rcases hs.how with h1 | ⟨kn, k, z, htn, rfl, hz, hnews, hs0⟩
  · exact run_append_room_src w t tx ty e i ht hi b off sLen sCap x n news h1 hroom hc hf
  · have hst := run_storeCells_cells (P := P) b (off + sLen * i.size) news 0 w (by simpa using hc) (by simpa using hf) hs.one
    simp only [Nat.add_zero] at hst
    have hw := wrap_id (n := n) (by omega)
    have hneg : ¬ ((n : Int) < 0) := by omega
    have h48i : ¬ (281474976710656 < (n : Int) * (i.bytes : Int)) := by
      rw [← Int.natCast_mul]
      have : n * i.bytes ≤ 2 ^ 30 * 2 ^ 12 := Nat.mul_le_mul hn40 hby
      omega
    by_cases h0 : n * i.size = 0
    · have hn0 : n = 0 := by
        rcases Nat.eq_zero_or_pos n with q | q
        · exact q
        · have := Nat.mul_pos q hs0; omega
      subst hn0
      have hnil : news = [] := List.eq_nil_of_length_eq_zero (by rw [hs.len]; exact h0)
      subst hnil
      have hw0 : IntKind.i64.wrap 0 = 0 := wrap_id (n := 0) (by omega)
      have hr0 : sLen ≤ sCap := by omega
      simp [Builtin.append_, run_underlying ht, run_underlying htn, sizeOf, typeInfo, hi, asInt, asIntOf, hw0, hr0, Addr.add_lit, World.setCells, storeCells]
    · have hn0 : n ≠ 0 := fun q => h0 (by rw [q]; simp)
      have hsz0 : i.size ≠ 0 := by omega
      rw [hnews] at hst
      simp [Builtin.append_, run_underlying ht, run_underlying htn, sizeOf, typeInfo, zeroValue, hi, hz, asInt, asIntOf, hw, hneg, h48i, hroom, hn0, hsz0, Addr.add_lit]
      rw [hst, hnews, if_neg h0]
      rfl
theorem run_more_grow {t tx ty e : TypeId} {i : TypeInfo} {z : Value} (ht : P.underlying t = some (.slice e)) (hi : P.info? e = some i) (hz : i.zero = some z) (base : Option Addr) (sLen sCap : Nat) (olds : List Value)
    (hold : (Builtin.firstCells i.size sLen (.slice base sLen sCap)).run P w.drew = .ok olds.toArray w.drew) {x : Value} {n : Nat} {news : List Value} (hs : More P e i tx x n news w) (hn40 : n ≤ 2 ^ 30) (hby : i.bytes ≤ 2 ^ 12) (hsl : sLen ≤ 2 ^ 30) (hn1 : 0 < n) (hg : sCap < sLen + n) :
    (Builtin.append_ #[t, tx] ty #[.slice base sLen sCap, x]).run P w =
      .ok (.slice (some ⟨w.heap.size, 0, none⟩) (sLen + n) (grownCap w (sLen + n) sCap e))
        (w.drew.alloc (.cells ((olds ++ news).toArray ++ Builtin.zeroCells z.cells (grownCap w (sLen + n) sCap e - (sLen + n))) e)) := by
  have hfit : Builtin.nextslicecap (sLen + n) sCap * i.bytes ≤ 281474976710656 := growslice_fits hg (by
    have : (sLen + n) * i.bytes ≤ 2 ^ 31 * 2 ^ 12 := Nat.mul_le_mul (by omega) hby
    omega)
  have h63 : ((sLen + n : Nat) : Int) ≤ 9223372036854775807 := by omega
  rcases hs.how with h1 | ⟨kn, k, z', htn, rfl, hz', hnews, hs0⟩
  · exact run_append_grow_src w t tx ty e i z ht hi hz base sLen sCap olds hold x n news h1 hg h63 hfit
  · have hzz : z' = z := by rw [hz] at hz'; exact (Option.some.inj hz').symm
    subst hzz
    have hw := wrap_id (n := n) (by omega)
    have hneg : ¬ ((n : Int) < 0) := by omega
    have h48i : ¬ (281474976710656 < (n : Int) * (i.bytes : Int)) := by
      rw [← Int.natCast_mul]
      have : n * i.bytes ≤ 2 ^ 30 * 2 ^ 12 := Nat.mul_le_mul hn40 hby
      omega
    have hn : ¬ (sLen + n ≤ sCap) := by omega
    have h63' : ¬ (9223372036854775807 < ((sLen : Int) + (n : Int))) := by omega
    have h48' : ¬ (281474976710656 < Builtin.nextslicecap (sLen + n) sCap * i.bytes) := by omega
    have hn0 : n ≠ 0 := by omega
    have hsz0 : i.size ≠ 0 := by omega
    subst hnews
    simp [Builtin.append_, run_underlying ht, run_underlying htn, sizeOf, typeInfo, zeroValue, hi, hz, asInt, asIntOf, hw, hneg, h48i, hn, h63', h48', hn0, hsz0, Question.forced, hold, newRow, grownCap]
    rw [if_neg (Nat.mul_ne_zero hn0 hsz0)]
    congr 3
    apply Array.ext'
    simp [List.append_assoc]
end
end Go.V
namespace Go.V
set_option linter.unusedVariables false
set_option linter.unusedSectionVars false
set_option linter.unusedSimpArgs false
variable [Sy]
section
variable {P : Program} {ρ : Ren} {h : Hp} {w : World} {env : Env} {a : Act}
theorem range_congr {w w' : World} {g o : Nat} {us : List Value} (hw : w'.heap = w.heap) (hr : w.rangeAt g o us) : w'.rangeAt g o us := fun j v hv => by
  rw [cell_congr (w := w) (by rw [hw])]; exact hr j v hv
theorem sim_first {z n : Nat} {v : Val} {u : Value} {c : List Val} (r : Rel ρ h w) (hv : VR ρ v u) (hc : firstV h z n v = some c) (hz : ∀ s, v = .s s → n = s.length) (hl : c.length = n * z) :
    ∃ us, VRL ρ c us ∧ us.length = n * z ∧ ∀ w', w'.heap = w.heap → (Builtin.firstCells z n u).run P w' = .ok us.toArray w' := by
  cases hv with
  | sn => obtain rfl := Option.some.inj hc; exact ⟨[], VRL.nil, hl, fun w' _ => rfl⟩
  | es =>
    simp only [firstV] at hc
    split at hc
    · rename_i h0; subst h0; obtain rfl := Option.some.inj hc
      exact ⟨[], VRL.nil, by simp, fun w' _ => by simp [Builtin.firstCells, loadCells, loadCellsFrom]⟩
    · cases hc
  | s x =>
    obtain rfl := Option.some.inj hc
    have hn := hz x rfl
    subst hn
    rw [List.take_length] at hl ⊢
    refine ⟨byteCells ⟨x.toArray⟩, ⟨by simp [byteCells], fun j u u' p q => ?_⟩, by rw [byteCells_length, ← hl]; simp [ByteArray.size], fun w' _ => ?_⟩
    · simp only [byteCells, List.getElem?_map, Option.map_eq_some_iff] at p q
      obtain ⟨b, p1, rfl⟩ := p
      obtain ⟨b', q1, rfl⟩ := q
      rw [p1] at q1
      obtain rfl := Option.some.inj q1
      exact .i _ _
    · have := firstCells_string (P := P) ⟨x.toArray⟩ w'
      simpa [ByteArray.size, strVal', Builtin.firstCells] using this
  | sk hb hk =>
    simp only [firstV] at hc
    split at hc
    · rename_i h0; subst h0; obtain rfl := Option.some.inj hc
      exact ⟨[], VRL.nil, by simp, fun w' _ => by simp [Builtin.firstCells, loadCells, loadCellsFrom]⟩
    · obtain ⟨g1, us, g2, g3, g4⟩ := r.rd hb hc
      refine ⟨us, g2, g3, fun w' hw => ?_⟩
      simp only [Builtin.firstCells]
      rw [← g3]
      exact run_cells (range_congr hw g4)
  | so hb hk hk2 q1 q2 =>
    simp only [firstV] at hc
    split at hc
    · rename_i h0; subst h0; obtain rfl := Option.some.inj hc
      exact ⟨[], VRL.nil, by simp, fun w' _ => by simp [Builtin.firstCells, loadCells, loadCellsFrom]⟩
    · obtain ⟨g1, us, g2, g3, g4⟩ := r.rd hb hc
      refine ⟨us, g2, g3, fun w' hw => ?_⟩
      simp only [Builtin.firstCells]
      rw [← g3]
      exact run_cells (range_congr hw g4)
  | _ => cases hc
theorem sim_len {v : Val} {u : Value} {n : Nat} (hv : VR ρ v u) (hl : lenV v = some n) (w : World) : (Builtin.lenOf u).run P w = .ok n w := by
  cases hv <;> simp only [lenV, Option.some.injEq, reduceCtorEq] at hl <;> subst hl <;> simp [Builtin.lenOf, strVal', ByteArray.size]
theorem zeroCells_eq (z : Array Value) (n : Nat) : Builtin.zeroCells z n = (Array.range (n * z.size)).map fun i => z[i % z.size]! := rfl
theorem lenV_nil' {l : Nat} {k : Cap} {u : Value} (hv : VR ρ (.sl none l k) u) : l = 0 ∧ k = .k 0 ∧ u = .slice none 0 0 := by cases hv; exact ⟨rfl, rfl, rfl⟩
theorem sim_more {e tx : TypeId} {i : TypeInfo} {z n : Nat} {zk : Bool} {zero v : Val} {u : Value} {c : List Val} (r : Rel ρ h w) (hi : P.info? e = some i) (hs : i.size = z) (hz : zeroV P e = some zero) (hzl : zero.cells.length = z) (h0 : 0 < z) (hk : zerosK P tx = some zk) (hv : VR ρ v u)
    (hm : moreV P h e z zk v = some (n, c)) (hl : c.length = n * z) (ho : c.all Val.one = true) : ∃ news, VRL ρ c news ∧ More P e i tx u n news w := by
  obtain ⟨i', zu, i1, i2, i3⟩ := zeroV_some hz
  have hii : i' = i := by rw [i1] at hi; exact Option.some.inj hi
  subst hii
  have hzr := (cv_VR (ρ := ρ) i3).cells
  have hzs : zu.cells.size = z := by have := hzr.1; simp at this; omega
  unfold moreV at hm
  cases zk with
  | true =>
    simp only [cond_true] at hm
    rw [Option.bind_eq_some_iff] at hm; obtain ⟨m, h1, hm⟩ := hm
    rw [hz] at hm
    simp only [Option.bind_some] at hm
    rw [if_pos hzl] at hm
    · simp only [Option.some.injEq, Prod.mk.injEq] at hm
      obtain ⟨rfl, rfl⟩ := hm
      obtain ⟨k, rfl, hm40⟩ := natV_some h1
      cases hv
      have hzz := zeros_VRL hzr (by omega) m
      have hkn : ∃ kn, P.underlying tx = some (.int kn) := by
        unfold zerosK at hk
        split at hk <;> simp at hk
        exact ⟨_, by assumption⟩
      obtain ⟨kn, hkn⟩ := hkn
      exact ⟨_, hzz, .inr ⟨kn, k, zu, hkn, rfl, i2, by rw [zeroCells_eq], by omega⟩, hzz.one ho, by rw [← hzz.1, hl, hs]⟩
  | false =>
    simp only [cond_false] at hm
    rw [Option.bind_eq_some_iff] at hm; obtain ⟨m, h1, hm⟩ := hm
    obtain ⟨c', h2, hm⟩ := Option.map_eq_some_iff.1 hm
    simp only [Prod.mk.injEq] at hm
    obtain ⟨rfl, rfl⟩ := hm
    obtain ⟨us, g1, g2, g3⟩ := sim_first (P := P) r hv h2 (fun s e => by subst e; exact (Option.some.inj h1).symm) hl
    have hkn : (∃ e', P.underlying tx = some (.slice e')) ∨ P.underlying tx = some .string := by
      unfold zerosK at hk
      split at hk <;> simp at hk
      · exact .inl ⟨_, by assumption⟩
      · exact .inr (by assumption)
    refine ⟨us, g1, .inl ⟨hkn, fun w' => sim_len hv h1 w', ?_, ?_, by rw [hs]; exact g2, g1.one ho⟩, g1.one ho, by rw [hs]; exact g2⟩
    · rw [hs]; exact g3 w rfl
    · rw [hs]; exact g3 w.drew rfl
theorem zeroCells_length (z : Array Value) (n : Nat) : (Builtin.zeroCells z n).toList.length = n * z.size := by simp [Builtin.zeroCells]
theorem zeroCells_one {z : Array Value} {n : Nat} (h : ∀ u ∈ z.toList, u.oneCell' = true) : ∀ u ∈ (Builtin.zeroCells z n).toList, u.oneCell' = true := by
  intro u hu
  simp only [Builtin.zeroCells, Array.toList_map, Array.toList_range, List.mem_map, List.mem_range] at hu
  obtain ⟨i, hi, rfl⟩ := hu
  have hp : 0 < z.size := by
    rcases Nat.eq_zero_or_pos z.size with q | q
    · rw [q] at hi; omega
    · exact q
  have hl := Nat.mod_lt i hp
  rw [getElem!_pos z _ hl]
  exact h _ (by simp)
theorem sim_grown {z n0 : Nat} {c : List Val} {us : List Value} {v : Val} {h' : Hp} (r : Rel ρ h w) (e : TypeId) (zs : Array Value) (hz1 : ∀ u ∈ zs.toList, u.oneCell' = true) (hzs : zs.size = z) (C : Nat) (hC : n0 ≤ C) (hcl : c.length = n0 * z) (hv : rowV h z c n0 none = some (v, h')) (hr : VRL ρ c us) :
    ∃ ρ' u, u = .slice (some ⟨w.heap.size, 0, none⟩) n0 C ∧ VR ρ' v u ∧ Rel ρ' h' (w.alloc (.cells (us.toArray ++ Builtin.zeroCells zs (C - n0)) e)) ∧ Ext ρ h w ρ' h' (w.alloc (.cells (us.toArray ++ Builtin.zeroCells zs (C - n0)) e)) := by
  unfold rowV at hv
  split at hv
  · rename_i h1
    simp only [Option.some.injEq, Prod.mk.injEq] at hv
    obtain ⟨rfl, rfl⟩ := hv
    have hul := hr.1
    have e1 : us.toArray ++ Builtin.zeroCells zs (C - n0) = (us ++ (Builtin.zeroCells zs (C - n0)).toList).toArray := by apply Array.ext'; simp
    have e2 : (us ++ (Builtin.zeroCells zs (C - n0)).toList).length = C * z := by
      rw [List.length_append, zeroCells_length, hzs, ← hul, hcl, ← Nat.add_mul]; congr 1; omega
    rw [e1]
    obtain ⟨h2, h3⟩ := r.newCells (z := z) (cs := us ++ (Builtin.zeroCells zs (C - n0)).toList) (e := e) (fz := (0, 0)) (by simp) (by simp) (fun _ => Nat.le_refl _) h1 (fun u hu => (List.mem_append.1 hu).elim (hr.one h1 u) (zeroCells_one hz1 u)) (by simp [hul]) (by rw [hul, List.take_left]; exact hr)
    refine ⟨_, _, rfl, ?_, h2, h3⟩
    have := VR.so (ρ := ρ.put h.next ⟨w.heap.size, 0, z, c.length, (us ++ (Builtin.zeroCells zs (C - n0)).toList).length⟩) (b := h.next) (o := 0) (len := n0) (m := n0) (c := C) (put_self _ _) (Nat.le_refl _) hC (by
      show c.length ≤ 0 + C * z
      rw [hcl, Nat.zero_add]; exact Nat.mul_le_mul_right _ hC) (by
      show 0 + 0 + C * z ≤ (us ++ (Builtin.zeroCells zs (C - n0)).toList).length
      rw [e2]; omega)
    simpa using this
  · cases hv
theorem one_append {c d : List Val} (h1 : c.all Val.one = true) (h2 : d.all Val.one = true) : (c ++ d).all Val.one = true := by simp [h1, h2]
theorem run_more_nothing {t tx ty e : TypeId} {i : TypeInfo} (ht : P.underlying t = some (.slice e)) (hi : P.info? e = some i) (base : Option Addr) (sLen sCap : Nat) (hle : sLen ≤ sCap) {x : Value} (hs : More P e i tx x 0 [] w) :
    (Builtin.append_ #[t, tx] ty #[.slice base sLen sCap, x]).run P w = .ok (.slice base sLen sCap) w := by
  rcases hs.how with h1 | ⟨kn, k, z, htn, rfl, hz, hnews, hs0⟩
  · exact run_append_nothing w t tx ty e i ht hi base sLen sCap hle x h1
  · have hw0 : IntKind.i64.wrap 0 = 0 := wrap_id (n := 0) (by omega)
    cases base <;> simp [Builtin.append_, run_underlying ht, run_underlying htn, sizeOf, typeInfo, hi, asInt, asIntOf, hw0, hle, storeCells]
theorem rd_length {b o n : Nat} {c : List Val} (hr : rd h b o n = some c) : c.length = n := by
  unfold rd at hr
  split at hr
  · split at hr
    · obtain rfl := Option.some.inj hr; simp; omega
    · cases hr
  · split at hr
    · obtain rfl := Option.some.inj hr; simp; omega
    · cases hr
  · cases hr
theorem first_length {z n b o len : Nat} {cap : Cap} {c : List Val} (hc : firstV h z n (.sl (some (b, o)) len cap) = some c) : c.length = n * z := by
  simp only [firstV] at hc
  split at hc
  · rename_i h0; subst h0; obtain rfl := Option.some.inj hc; simp
  · exact rd_length hc
theorem first_one {z n b o len : Nat} {cap : Cap} {c : List Val} (r : Rel ρ h w) {i : Info} (hb : ρ b = some i) (hc : firstV h z n (.sl (some (b, o)) len cap) = some c) : c.all Val.one = true := by
  simp only [firstV] at hc
  split at hc
  · obtain rfl := Option.some.inj hc; rfl
  · exact (r.rd hb hc).1
theorem sim_app {e t tx ty : TypeId} {i : TypeInfo} {zu s' x' : Value} {z n : Nat} {c : List Val} {news : List Value} {s v : Val} {h' : Hp} (r : Rel ρ h w) (hst : P.underlying t = some (.slice e)) (hi : P.info? e = some i) (hsz : i.size = z) (j2 : i.zero = some zu) (hz1 : ∀ u ∈ zu.cells.toList, u.oneCell' = true) (hzs : zu.cells.size = z) (c2 : 0 < z) (c3 : n ≤ 2 ^ 30) (c5 : i.bytes ≤ 2 ^ 12)
    (c6 : c.length = n * z) (vs : VR ρ s s') (g1 : VRL ρ c news) (g2 : More P e i tx x' n news w) (hv : appV h z n c s = some (v, h')) :
    ∃ ρ' w' u, (Builtin.append_ #[t, tx] ty #[s', x']).run P w = .ok u w' ∧ VR ρ' v u ∧ Rel ρ' h' w' ∧ Ext ρ h w ρ' h' w' := by
  have hdr := Ext.drew ρ h w
  subst hsz
  unfold appV at hv
  split at hv
  · rename_i len cap
    split at hv
    · obtain ⟨_, _, rfl⟩ := lenV_nil' vs
      split at hv
      · rename_i h0
        subst h0
        simp only [Option.some.injEq, Prod.mk.injEq] at hv
        obtain ⟨rfl, rfl⟩ := hv
        have hnil : news = [] := List.eq_nil_of_length_eq_zero (by rw [g2.len]; simp)
        subst hnil
        exact ⟨ρ, w, _, run_more_nothing hst hi none 0 0 (Nat.le_refl _) g2, vs, r, Ext.refl _ _ _⟩
      · have hg := run_more_grow (w := w) hst hi j2 none 0 0 [] (ty := ty) (by rfl) g2 c3 c5 (by omega) (by omega) (by omega)
        obtain ⟨ρ', u, rfl, q1, q2, q3⟩ := sim_grown r.drew e zu.cells hz1 hzs (grownCap w (0 + n) 0 e) (n0 := n) (by have := grownCap_ge w (0 + n) 0 e; omega) c6 hv g1
        refine ⟨ρ', _, .slice (some ⟨w.heap.size, 0, none⟩) n (grownCap w (0 + n) 0 e), ?_, q1, q2, hdr.trans q3⟩
        rw [hg]
        simp
    · cases hv
  · cases vs with
    | es =>
      split at hv
      · rename_i h0
        subst h0
        simp only [Option.some.injEq, Prod.mk.injEq] at hv
        obtain ⟨rfl, rfl⟩ := hv
        have hnil : news = [] := List.eq_nil_of_length_eq_zero (by rw [g2.len]; simp)
        subst hnil
        exact ⟨ρ, w, _, run_more_nothing hst hi _ 0 _ (Nat.zero_le _) g2, VR.es, r, Ext.refl _ _ _⟩
      · cases hv
  · rename_i b off len k
    cases vs with
    | sk hb hlk =>
      rename_i i'
      split at hv
      · rename_i hroom
        obtain ⟨h2, hw, hv⟩ := Option.map_eq_some_iff.1 hv
        simp only [Prod.mk.injEq] at hv
        obtain ⟨rfl, rfl⟩ := hv
        obtain ⟨d1, d2, d3, d4, d5⟩ := r.wrH hb hw g1
        have e0 : i'.base + (off + len * i.size) = i'.base + off + len * i.size := by omega
        rw [e0] at d1 d2 d4 d5
        exact ⟨ρ, _, _, run_more_room hst hi g2 c3 c5 hroom d1 d2, VR.sk hb hroom, d4, d5⟩
      · rename_i hroom
        split at hv
        · rename_i hlen
          rw [Option.bind_eq_some_iff] at hv; obtain ⟨d, hd, hv⟩ := hv
          have hdl := first_length hd
          obtain ⟨olds, f1, f2, f3⟩ := sim_first (P := P) r (VR.sk hb hlk) hd (fun s e => by cases e) hdl
          have hg := run_more_grow (w := w) hst hi j2 (some ⟨i'.g, i'.base + off, none⟩) len k olds (ty := ty) (f3 w.drew rfl) g2 c3 c5 hlen.2 (by omega) (by omega)
          obtain ⟨ρ', u, rfl, q1, q2, q3⟩ := sim_grown r.drew e zu.cells hz1 hzs (grownCap w (len + n) k e) (n0 := len + n) (grownCap_ge w (len + n) k e) (by rw [List.length_append, hdl, c6, Nat.add_mul]) hv (f1.append g1)
          exact ⟨ρ', _, _, hg, q1, q2, hdr.trans q3⟩
        · cases hv
  · rename_i b off len zo mo
    cases vs with
    | so hb hlk hlm p1 p2 =>
      rename_i cc i'
      split at hv
      · rename_i z' d hgb
        have hB := r.blk _ _ _ hb hgb
        obtain ⟨b1, b2, b3, b4, b5, b6⟩ := hB
        split at hv
        · rename_i hcc
          obtain ⟨rfl, hl30, hfit⟩ := hcc
          rw [b1] at p1 p2
          split at hv
          · rename_i hin
            obtain ⟨h2, hw, hv⟩ := Option.map_eq_some_iff.1 hv
            simp only [Prod.mk.injEq] at hv
            obtain ⟨rfl, rfl⟩ := hv
            obtain ⟨d1, d2, d3, d4, d5⟩ := r.wrH hb hw g1
            have e0 : i'.base + (off + len * i.size) = i'.base + off + len * i.size := by omega
            rw [e0] at d1 d2 d4 d5
            have hroom : len + n ≤ cc := by
              have : (len + n) * i.size ≤ cc * i.size := by omega
              exact Nat.le_of_mul_le_mul_right this c2
            refine ⟨ρ, _, _, run_more_room hst hi g2 c3 c5 hroom d1 d2, b1 ▸ VR.so (m := max _ (len + n)) hb (Nat.le_max_right _ _) (Nat.max_le.2 ⟨hlm, hroom⟩) (by rw [b1]; exact p1) (by rw [b1]; exact p2), d4, d5⟩
          · rename_i hin
            rw [Option.bind_eq_some_iff] at hv; obtain ⟨dd, hd, hv⟩ := hv
            have hdl := first_length hd
            have hone := first_one r hb hd
            obtain ⟨olds, f1, f2, f3⟩ := sim_first (P := P) r (VR.so hb hlk hlm (by rw [b1]; exact p1) (by rw [b1]; exact p2)) hd (fun s e => by cases e) hdl
            have hn1 : 0 < n := by
              rcases Nat.eq_zero_or_pos n with q | q
              · subst q; simp at hin; omega
              · exact q
            by_cases hroom : len + n ≤ cc
            · -- in place, though nobody knows
              have hlen : news.length = n * i.size := g2.len
              have hmul : (len + n) * i.size ≤ cc * i.size := Nat.mul_le_mul_right _ hroom
              rw [Nat.add_mul] at hmul
              have d1 : ∀ j, j < news.length → (w.cell? ⟨i'.g, i'.base + off + len * i.size + j, none⟩).isSome = true := fun j hj => (b5.1 _ (by omega)).1
              have d2 : ∀ j, j < news.length → w.frozen? ⟨i'.g, i'.base + off + len * i.size + j, none⟩ = false := fun j hj => (b5.1 _ (by omega)).2
              have hg := run_more_room (ty := ty) hst hi g2 c3 c5 hroom d1 d2
              unfold rowV at hv
              split at hv
              · rename_i h1
                simp only [Option.some.injEq, Prod.mk.injEq] at hv
                obtain ⟨rfl, rfl⟩ := hv
                have hcl : (dd ++ c).length = (len + n) * i.size := by rw [List.length_append, hdl, c6, Nat.add_mul]
                obtain ⟨q2, q3⟩ := r.newIn (p := i'.base + off + len * i.size) (z := i.size) (n := 0) (N := i'.base + off + cc * i.size) (base := i'.base + off) (c := dd ++ c) (us := news) hb hgb h1 (by rw [hcl, Nat.add_mul]; omega) g2.one b5.2 (fun o ho => ⟨isSome_setCells _ _ _ _ _ (b5.1 o (by omega)).1, by rw [World.frozen?_setCells]; exact (b5.1 o (by omega)).2⟩) (fun j u hj => by
                  by_cases hjl : j < dd.length
                  · rw [List.getElem?_append_left hjl] at hj
                    have hrd : rd h b off (len * i.size) = some dd ∨ dd = [] := by
                      simp only [firstV] at hd
                      split at hd
                      · exact .inr (Option.some.inj hd).symm
                      · exact .inl hd
                    rcases hrd with hrd | hrd
                    · obtain ⟨_, us2, v1, v2, v3⟩ := r.rd hb hrd
                      obtain ⟨u2, a1, a2⟩ := v1.at hj
                      refine ⟨u2, ?_, a2⟩
                      rw [World.cell?_setCells_out _ _ _ _ _ (fun _ _ => by simp only; omega)]
                      exact v3 j u2 a1
                    · rw [hrd] at hjl; simp at hjl
                  · rw [List.getElem?_append_right (by omega)] at hj
                    obtain ⟨u', a1, a2⟩ := g1.at hj
                    refine ⟨u', ?_, a2⟩
                    have hlt := (List.getElem?_eq_some_iff.1 a1).1
                    have := World.cell?_setCells_in i'.g news (i'.base + off + len * i.size) w d1 (j - dd.length) hlt
                    rw [show i'.base + off + j = i'.base + off + len * i.size + (j - dd.length) by omega, this]
                    exact (List.getElem?_eq_getElem hlt).symm.trans a1)
                refine ⟨_, _, _, hg, ?_, q2, q3⟩
                have := VR.so (ρ := ρ.put h.next ⟨i'.g, i'.base + off, i.size, (dd ++ c).length, i'.base + off + cc * i.size⟩) (b := h.next) (o := 0) (len := len + n) (m := len + n) (c := cc) (put_self _ _) (Nat.le_refl _) hroom (by
                  show (dd ++ c).length ≤ 0 + cc * i.size
                  rw [hcl, Nat.add_mul]; omega) (by
                  show i'.base + off + 0 + cc * i.size ≤ i'.base + off + cc * i.size
                  omega)
                have hh : (h.set b .dead).next = h.next := rfl
                rw [hh]
                simpa using this
              · cases hv
            · have hg := run_more_grow (w := w) hst hi j2 (some ⟨i'.g, i'.base + off, none⟩) len cc olds (ty := ty) (f3 w.drew rfl) g2 c3 c5 hl30 hn1 (by omega)
              obtain ⟨k1, k2⟩ := r.drew.kill hb
              obtain ⟨ρ', u, rfl, q1, q2, q3⟩ := sim_grown k1 e zu.cells hz1 hzs (grownCap w (len + n) cc e) (n0 := len + n) (grownCap_ge w (len + n) cc e) (by rw [List.length_append, hdl, c6, Nat.add_mul]) hv (f1.append g1)
              exact ⟨ρ', _, _, hg, q1, q2, (hdr.trans k2).trans q3⟩
        · cases hv
      · cases hv
  · cases hv
theorem map2 {xs : Array Operand} {s x : Val} (hE : EnvR ρ env a) (hl : evL env xs.toList = some [s, x]) : ∃ s' x', xs.map a.eval = #[s', x'] ∧ VR ρ s s' ∧ VR ρ x x' := by
  have hr := evL_VR hE hl
  have hmap : (xs.map a.eval).toList = xs.toList.map a.eval := by simp
  generalize hus : xs.toList.map a.eval = us at hr
  obtain ⟨s', x', rfl⟩ : ∃ s' x', us = [s', x'] := by
    have := hr.1
    match us, this with
    | [s', x'], _ => exact ⟨s', x', rfl⟩
  exact ⟨s', x', by apply Array.ext'; rw [hmap, hus], hr.head, hr.tail.head⟩
theorem map1 {xs : Array Operand} {s : Val} (hE : EnvR ρ env a) (hl : evL env xs.toList = some [s]) : ∃ s', xs.map a.eval = #[s'] ∧ VR ρ s s' := by
  have hr := evL_VR hE hl
  have hmap : (xs.map a.eval).toList = xs.toList.map a.eval := by simp
  generalize hus : xs.toList.map a.eval = us at hr
  obtain ⟨s', rfl⟩ : ∃ s', us = [s'] := by
    have := hr.1
    match us, this with
    | [s'], _ => exact ⟨s', rfl⟩
  exact ⟨s', by apply Array.ext'; rw [hmap, hus], hr.head⟩
theorem run_blt {o : Oper} {b : Builtin} {xs : Array Operand} {ats : Array TypeId} {u : Next} {w' : World} (ho : o.op = .call { callee := .builtin b, args := xs, argTypes := ats }) (h2 : (builtin b ats o.type (xs.map fun | .const _ => true | _ => false) (xs.map a.eval)).run P w = .ok u w') :
    (execOp a.eval o).run P w = .ok u w' := by
  simp only [execOp, ho, resolve, invoke, Sem.run_bind, Sem.run_pure, Result.andThen_ok]
  exact h2
theorem sim_append {o : Oper} {xs : Array Operand} {ats : Array TypeId} {s x : Val} {v : Val} {h' : Hp} (ho : o.op = .call { callee := .builtin .append, args := xs, argTypes := ats }) (r : Rel ρ h w) (hE : EnvR ρ env a) (hl : evL env xs.toList = some [s, x]) (hv : appendV P h ats.toList s x = some (v, h')) :
    OpR P ρ h w a o v h' := by
  obtain ⟨s', x', hargs, vs, vx⟩ := map2 hE hl
  unfold appendV at hv
  split at hv
  · rename_i t tx hts
    split at hv
    · rename_i e hst
      rw [Option.bind_eq_some_iff] at hv; obtain ⟨z, hz, hv⟩ := hv
      rw [Option.bind_eq_some_iff] at hv; obtain ⟨i, hi, hv⟩ := hv
      rw [Option.bind_eq_some_iff] at hv; obtain ⟨zero, hzero, hv⟩ := hv
      rw [Option.bind_eq_some_iff] at hv; obtain ⟨zk, hzk, hv⟩ := hv
      rw [Option.bind_eq_some_iff] at hv; obtain ⟨⟨n, c⟩, hm, hv⟩ := hv
      split at hv
      · rename_i hc
        obtain ⟨c1, c2, c3, c4, c5, c6, c7⟩ := hc
        simp only at c3 c6 c7 hv
        obtain ⟨i', hi', hsz⟩ := sz_info hz
        have : i' = i := by rw [hi'] at hi; exact Option.some.inj hi
        subst this
        obtain ⟨news, g1, g2⟩ := sim_more r hi hsz hzero c1 c2 hzk vx hm c6 c7
        have hats : ats = #[t, tx] := by apply Array.ext'; simpa using hts
        obtain ⟨i2, zu, j1, j2, j3⟩ := zeroV_some hzero
        have : i2 = i' := by rw [j1] at hi; exact Option.some.inj hi
        subst this
        have hzs : zu.cells.size = z := by have := (cv_VR (ρ := ρ) j3).cells.1; simp at this; omega
        obtain ⟨ρ', w', u, e1, e2, e3, e4⟩ := sim_app (ty := o.type) r hst hi hsz j2 (cv_one j3) hzs c2 c3 c5 c6 vs g1 g2 hv
        refine ⟨ρ', w', _, u, run_blt ho ?_, .inl rfl, e2, e3, e4⟩
        rw [hargs, hats]
        simp only [builtin, Sem.run_bind, e1, Result.andThen_ok, Sem.run_pure]
      · cases hv
    · cases hv
  · cases hv
theorem sim_copy {o : Oper} {xs : Array Operand} {ats : Array TypeId} {d s : Val} {v : Val} {h' : Hp} (ho : o.op = .call { callee := .builtin .copy, args := xs, argTypes := ats }) (r : Rel ρ h w) (hE : EnvR ρ env a) (hl : evL env xs.toList = some [d, s]) (hv : copyV P h ats.toList d s = some (v, h')) :
    OpR P ρ h w a o v h' := by
  obtain ⟨d', s', hargs, vd, vs⟩ := map2 hE hl
  unfold copyV at hv
  rw [Option.bind_eq_some_iff] at hv; obtain ⟨t, ht, hv⟩ := hv
  split at hv
  · rename_i e hst
    rw [Option.bind_eq_some_iff] at hv; obtain ⟨z, hz, hv⟩ := hv
    rw [Option.bind_eq_some_iff] at hv; obtain ⟨m, hm, hv⟩ := hv
    have hlen := sim_len (P := P) vs hm w
    have ht' : ats[0]? = some t := by simpa using ht
    have done : ∀ {u : Value} {w' : World} {ρ' : Ren} {v' : Val}, (Builtin.copy_ ats o.type #[d', s']).run P w = .ok u w' → VR ρ' v' u → Rel ρ' h' w' → Ext ρ h w ρ' h' w' → OpR P ρ h w a o v' h' := fun e1 e2 e3 e4 => by
      refine ⟨_, _, _, _, run_blt ho ?_, .inl rfl, e2, e3, e4⟩
      rw [hargs]
      simp only [builtin, Sem.run_bind, e1, Result.andThen_ok, Sem.run_pure]
    have main : ∀ (b off len : Nat) (cap : Cap) (cc : Nat) (i : Info), d = .sl (some (b, off)) len cap → d' = .slice (some ⟨i.g, i.base + off, none⟩) len cc → ρ b = some i →
        ((firstV h z (min m len) s).bind fun c => if c.length = min m len * z then (wrH h b off c).map fun h' => (Val.i .i64 ((min m len : Nat) : Int), h') else none) = some (v, h') → OpR P ρ h w a o v h' := fun b off len cap cc i e1 e2 hb hv => by
      rw [Option.bind_eq_some_iff] at hv; obtain ⟨c, hc, hv⟩ := hv
      split at hv
      · rename_i hcl
        obtain ⟨h2, hw, hv⟩ := Option.map_eq_some_iff.1 hv
        simp only [Prod.mk.injEq] at hv
        obtain ⟨rfl, rfl⟩ := hv
        obtain ⟨us, f1, f2, f3⟩ : ∃ us, VRL ρ c us ∧ us.length = min m len * z ∧ (Builtin.firstCells z (min m len) s').run P w = .ok us.toArray w := by
          cases s with
          | s x =>
            cases vs
            obtain rfl := Option.some.inj hc
            obtain rfl := Option.some.inj hm
            refine ⟨(x.take (min x.length len)).map fun c => .int .u8 c.toNat, ⟨by simp, fun j u u' p q => ?_⟩, by simpa using hcl, ?_⟩
            · simp only [List.getElem?_map, Option.map_eq_some_iff] at p q
              obtain ⟨b, p1, rfl⟩ := p
              obtain ⟨b', q1, rfl⟩ := q
              rw [p1] at q1
              obtain rfl := Option.some.inj q1
              exact .i _ _
            · simp only [Builtin.firstCells, strVal', Sem.run_pure]
              congr 1
              apply Array.ext'
              simp
          | _ =>
            obtain ⟨us, f1, f2, f3⟩ := sim_first (P := P) r vs hc (fun s e => by cases e) hcl
            exact ⟨us, f1, f2, f3 w rfl⟩
        obtain ⟨d1, d2, d3, d4, d5⟩ := r.wrH hb hw f1
        have hst2 := run_storeCells_cells (P := P) i.g (i.base + off) us 0 w (by simpa using d1) (by simpa using d2) d3
        simp only [Nat.add_zero] at hst2
        refine done (u := .int .i64 ((min m len : Nat) : Int)) (ρ' := ρ) ?_ (VR.i _ _) d4 d5
        subst e2
        simp only [Builtin.copy_, ht', List.getElem?_toArray, List.getElem?_cons_zero, List.getElem?_cons_succ, Sem.run_bind, run_underlying hst w, Result.andThen_ok, hlen, run_sz hz w]
        have e3 : Nat.min m len = min m len := rfl
        rw [e3, f3]
        simp only [Result.andThen_ok, Sem.run_bind, hst2, Sem.run_pure, goInt]
      · cases hv
    split at hv
    · rename_i b off len cap
      cases vd with
      | sk hb hk => exact main b off len _ _ _ rfl rfl hb hv
      | so hb hk hk2 q1 q2 => exact main b off len _ _ _ rfl rfl hb hv
    · rename_i len cap
      obtain ⟨rfl, rfl, rfl⟩ := lenV_nil' vd
      simp only [if_true, Option.some.injEq, Prod.mk.injEq] at hv
      obtain ⟨rfl, rfl⟩ := hv
      refine done (u := .int .i64 0) (w' := w) (ρ' := ρ) ?_ (VR.i _ _) r (Ext.refl _ _ _)
      have e3 : Nat.min m 0 = 0 := Nat.min_zero m
      have hf : (Builtin.firstCells z 0 s').run P w = .ok #[] w := by
        cases vs <;> simp [lenV] at hm <;> simp [Builtin.firstCells, loadCells, loadCellsFrom, strVal']
      simp only [Builtin.copy_, ht', List.getElem?_toArray, List.getElem?_cons_zero, List.getElem?_cons_succ, Sem.run_bind, run_underlying hst w, Result.andThen_ok, hlen, run_sz hz w, e3, hf, Sem.run_pure, goInt]
      rfl
    · simp only [Option.some.injEq, Prod.mk.injEq] at hv
      obtain ⟨rfl, rfl⟩ := hv
      cases vd
      refine done (u := .int .i64 0) (w' := w) (ρ' := ρ) ?_ (VR.i _ _) r (Ext.refl _ _ _)
      have e3 : Nat.min m 0 = 0 := Nat.min_zero m
      have hf : (Builtin.firstCells z 0 s').run P w = .ok #[] w := by
        cases vs <;> simp [lenV] at hm <;> simp [Builtin.firstCells, loadCells, loadCellsFrom, strVal']
      simp only [Builtin.copy_, ht', List.getElem?_toArray, List.getElem?_cons_zero, List.getElem?_cons_succ, Sem.run_bind, run_underlying hst w, Result.andThen_ok, hlen, run_sz hz w, e3, hf, Sem.run_pure, goInt]
      rfl
    · cases hv
  · cases hv
end
end Go.V
namespace Go.V
set_option linter.unusedVariables false
set_option linter.unusedSectionVars false
set_option linter.unusedSimpArgs false
variable [Sy]
section
variable {P : Program} {ρ : Ren} {h : Hp} {w : World} {env : Env} {a : Act}
theorem VR.none0 {ρ : Ren} : VR ρ (.tup []) (.tuple #[]) := VR.tup (vs := []) rfl (fun j u u' h => by simp at h)
theorem sim_clear {o : Oper} {xs : Array Operand} {ats : Array TypeId} {d : Val} {v : Val} {h' : Hp} (ho : o.op = .call { callee := .builtin .clear, args := xs, argTypes := ats }) (r : Rel ρ h w) (hE : EnvR ρ env a) (hl : evL env xs.toList = some [d]) (hv : clearV P h ats.toList d = some (v, h')) :
    OpR P ρ h w a o v h' := by
  obtain ⟨d', hargs, vd⟩ := map1 hE hl
  unfold clearV at hv
  rw [Option.bind_eq_some_iff] at hv; obtain ⟨t, ht, hv⟩ := hv
  have ht' : ats[0]? = some t := by simpa using ht
  have done : ∀ {w' : World} {ρ' : Ren}, (Builtin.clear_ ats o.type #[d']).run P w = .ok (.tuple #[]) w' → Rel ρ' h' w' → Ext ρ h w ρ' h' w' → OpR P ρ h w a o (.tup []) h' := fun e1 e3 e4 => by
    refine ⟨_, _, _, _, run_blt ho ?_, .inl rfl, VR.none0, e3, e4⟩
    rw [hargs]
    simp only [builtin, Sem.run_bind, e1, Result.andThen_ok, Sem.run_pure]
  split at hv
  · rename_i e hst
    rw [Option.bind_eq_some_iff] at hv; obtain ⟨zero, hz, hv⟩ := hv
    obtain ⟨i, zu, i1, i2, i3⟩ := zeroV_some hz
    have hzr := (cv_VR (ρ := ρ) i3).cells
    have main : ∀ (b off len : Nat) (cc : Nat) (i' : Info), d' = .slice (some ⟨i'.g, i'.base + off, none⟩) len cc → ρ b = some i' →
        (if len = 0 then some (Val.tup [], h) else if 0 < zero.cells.length then (wrH h b off (zerosV zero.cells len)).map fun h' => (Val.tup [], h') else none) = some (v, h') → OpR P ρ h w a o v h' := fun b off len cc i' e2 hb hv => by
      subst e2
      split at hv
      · rename_i h0
        subst h0
        simp only [Option.some.injEq, Prod.mk.injEq] at hv
        obtain ⟨rfl, rfl⟩ := hv
        refine done (w' := w) (ρ' := ρ) ?_ r (Ext.refl _ _ _)
        simp [Builtin.clear_, ht', run_underlying hst]
      · rename_i h0
        split at hv
        · rename_i hz0
          obtain ⟨h2, hw, hv⟩ := Option.map_eq_some_iff.1 hv
          simp only [Prod.mk.injEq] at hv
          obtain ⟨rfl, rfl⟩ := hv
          have hzz := zeros_VRL hzr hz0 len
          obtain ⟨d1, d2, d3, d4, d5⟩ := r.wrH hb hw hzz
          have hst2 := run_storeCells_cells (P := P) i'.g (i'.base + off) _ 0 w (by simpa using d1) (by simpa using d2) d3
          simp only [Nat.add_zero] at hst2
          refine done (ρ' := ρ) ?_ d4 d5
          cases len with
          | zero => exact absurd rfl h0
          | succ len =>
            simp only [Builtin.clear_, ht', List.getElem?_toArray, List.getElem?_cons_zero, Sem.run_bind, run_underlying hst w, Result.andThen_ok, run_zero i1 i2 w, zeroCells_eq, hst2, Sem.run_pure]
        · cases hv
    split at hv
    · rename_i b off len cap
      cases vd with
      | sk hb hk => exact main b off len _ _ rfl hb hv
      | so hb hk hk2 q1 q2 => exact main b off len _ _ rfl hb hv
    · obtain ⟨rfl, rfl, rfl⟩ := lenV_nil' vd
      simp only [Option.some.injEq, Prod.mk.injEq] at hv
      obtain ⟨rfl, rfl⟩ := hv
      refine done (w' := w) (ρ' := ρ) ?_ r (Ext.refl _ _ _)
      simp [Builtin.clear_, ht', run_underlying hst]
    · simp only [Option.some.injEq, Prod.mk.injEq] at hv
      obtain ⟨rfl, rfl⟩ := hv
      cases vd
      refine done (w' := w) (ρ' := ρ) ?_ r (Ext.refl _ _ _)
      simp [Builtin.clear_, ht', run_underlying hst]
    · cases hv
  · cases hv
theorem sim_lenB {o : Oper} {xs : Array Operand} {ats : Array TypeId} {d : Val} {v : Val} (ho : o.op = .call { callee := .builtin .len, args := xs, argTypes := ats }) (r : Rel ρ h w) (hE : EnvR ρ env a) (hl : evL env xs.toList = some [d]) (hv : lenB P h ats.toList d = some v) :
    OpR P ρ h w a o v h := by
  obtain ⟨d', hargs, vd⟩ := map1 hE hl
  unfold lenB at hv
  rw [Option.bind_eq_some_iff] at hv; obtain ⟨t, ht, hv⟩ := hv
  have ht' : ats[0]? = some t := by simpa using ht
  have done : ∀ {n : Int}, (Builtin.len_ ats o.type #[d']).run P w = .ok (.int .i64 n) w → OpR P ρ h w a o (.i .i64 n) h := fun e1 => by
    refine OpR.val r (run_blt ho ?_) (VR.i _ _)
    rw [hargs]
    simp only [builtin, Sem.run_bind, e1, Result.andThen_ok, Sem.run_pure]
  have pre : ∀ {d : TypeDesc}, P.underlying t = some d → (underlying t).run P w = .ok d w := fun hd => run_underlying hd w
  split at hv
  · rename_i s hst
    obtain rfl := Option.some.inj hv
    cases vd
    refine done ?_
    have e9 : (⟨s.toArray⟩ : ByteArray).size = s.length := by simp [ByteArray.size]
    simp only [Builtin.len_, ht', strVal', List.getElem?_toArray, List.getElem?_cons_zero, Sem.run_bind, run_underlying hst w, Result.andThen_ok, Sem.run_pure, goInt, e9]
  · rename_i n e hst
    obtain rfl := Option.some.inj hv
    refine done ?_
    cases vd <;> simp [Builtin.len_, ht', run_underlying hst, goInt]
  · rename_i e b n c hst
    obtain rfl := Option.some.inj hv
    refine done ?_
    cases vd <;> simp [Builtin.len_, ht', run_underlying hst, goInt]
  · rename_i e hst
    obtain rfl := Option.some.inj hv
    refine done ?_
    cases vd; simp [Builtin.len_, ht', run_underlying hst, goInt]
  · rename_i hst
    obtain rfl := Option.some.inj hv
    refine done ?_
    cases vd; simp [Builtin.len_, ht', run_underlying hst, goInt]
  · rename_i rr hst
    split at hv
    · rename_i es hg
      obtain rfl := Option.some.inj hv
      cases vd with
      | m hb =>
        obtain ⟨en, m1, m2, m3⟩ := r.blk _ _ _ hb hg
        refine done ?_
        simp [Builtin.len_, ht', run_underlying hst, goInt, getObj, Sem.run, m1, m2]
    · cases hv
  · rename_i ad hst
    split at hv
    · rename_i n e hst2
      obtain rfl := Option.some.inj hv
      refine done ?_
      cases vd; simp [Builtin.len_, ht', run_underlying hst, run_underlying hst2, goInt]
    · cases hv
  · cases hv
theorem sim_capB {o : Oper} {xs : Array Operand} {ats : Array TypeId} {d : Val} {v : Val} (ho : o.op = .call { callee := .builtin .cap, args := xs, argTypes := ats }) (r : Rel ρ h w) (hE : EnvR ρ env a) (hl : evL env xs.toList = some [d]) (hv : capB P ats.toList d = some v) :
    OpR P ρ h w a o v h := by
  obtain ⟨d', hargs, vd⟩ := map1 hE hl
  unfold capB at hv
  rw [Option.bind_eq_some_iff] at hv; obtain ⟨t, ht, hv⟩ := hv
  have ht' : ats[0]? = some t := by simpa using ht
  split at hv
  · rename_i e b n k hst
    obtain rfl := Option.some.inj hv
    have e1 : (Builtin.cap_ ats o.type #[d']).run P w = .ok (.int .i64 k) w := by
      cases vd <;> simp [Builtin.cap_, ht', run_underlying hst, goInt]
    refine OpR.val r (run_blt ho (u := .value (.int .i64 k)) ?_) (VR.i _ _)
    rw [hargs]
    simp only [builtin, Sem.run_bind, e1, Result.andThen_ok, Sem.run_pure]
  · cases hv
theorem sim_mm {mx : Bool} : ∀ {l : List Val} {us : List Value} {x : Val} {u : Value} {v : Val}, l.foldlM (mm2 mx) x = some v → VRL ρ l us → VR ρ x u → ∃ u', (us.foldlM (if mx then Builtin.max2 else Builtin.min2) u : Sem Value).run P w = .ok u' w ∧ VR ρ v u'
  | [], us, x, u, v, hf, hr, hx => by
    have : us = [] := List.eq_nil_of_length_eq_zero hr.1.symm
    subst this
    simp at hf; subst hf
    exact ⟨u, by simp, hx⟩
  | y :: l, [], x, u, v, hf, hr, hx => by have := hr.1; simp at this
  | y :: l, u2 :: us, x, u, v, hf, hr, hx => by
    simp only [List.foldlM_cons, Option.bind_eq_bind, Option.bind_eq_some_iff] at hf
    obtain ⟨m, h1, h2⟩ := hf
    unfold mm2 at h1
    split at h1
    · split at h1
      · rename_i hk
        subst hk
        obtain rfl := Option.some.inj h1
        have hy := hr.head
        cases hx; cases hy
        obtain ⟨u', e1, e2⟩ := sim_mm h2 hr.tail (VR.i _ _)
        refine ⟨u', ?_, e2⟩
        cases mx <;> simpa [Builtin.max2, Builtin.min2] using e1
      · cases h1
    · cases h1
theorem sim_mmB {o : Oper} {xs : Array Operand} {ats : Array TypeId} {vs : List Val} {v : Val} {mx : Bool} (ho : o.op = .call { callee := .builtin (if mx then .max else .min), args := xs, argTypes := ats }) (r : Rel ρ h w) (hE : EnvR ρ env a) (hl : evL env xs.toList = some vs) (hv : mmB mx vs = some v) :
    OpR P ρ h w a o v h := by
  have hr := evL_VR hE hl
  have hmap : (xs.map a.eval).toList = xs.toList.map a.eval := by simp
  generalize xs.toList.map a.eval = us at hr hmap
  unfold mmB at hv
  cases vs with
  | nil => cases hv
  | cons x l =>
    cases us with
    | nil => have := hr.1; simp at this
    | cons u us =>
      obtain ⟨u', e1, e2⟩ := sim_mm (P := P) (w := w) hv hr.tail hr.head
      refine OpR.val r (run_blt ho (u := .value u') ?_) e2
      cases mx
      · simp only [Bool.false_eq_true, if_false] at e1 ⊢
        simp only [builtin, Builtin.min_, hmap, Sem.run_bind, e1, Result.andThen_ok, Sem.run_pure]
      · simp only [if_true] at e1 ⊢
        simp only [builtin, Builtin.max_, hmap, Sem.run_bind, e1, Result.andThen_ok, Sem.run_pure]
end
end Go.V
