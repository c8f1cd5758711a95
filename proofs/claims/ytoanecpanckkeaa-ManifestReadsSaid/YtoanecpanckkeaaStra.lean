/- A text appended to bytes. -/
import Derived.Test.YtoanecpanckkeaaStrs
namespace Go.Wk
open Go.RowKit
set_option linter.unusedVariables false

def bV (s : List UInt8) : List Value := s.map fun b => Value.int .u8 (b.toNat : Int)
theorem bV_len (s : List UInt8) : (bV s).length = s.length := by simp [bV]
theorem bV_flat : ∀ (s : List UInt8), (s.flatMap fun b => [Value.int .u8 (b.toNat : Int)]) = bV s
  | [] => rfl
  | b :: s => by rw [List.flatMap_cons, bV_flat s]; rfl
theorem firstCells_str {P : Program} (w : World) (k : Nat) (s : List UInt8) : (Builtin.firstCells k s.length (strV s)).run P w = .ok (bV s).toArray w := by
  simp only [Builtin.firstCells, strV, Sem.run_pure]
  congr 1
  rw [extract_str]
  simp [bV]
theorem lenOf_str {P : Program} (w : World) (s : List UInt8) : (Builtin.lenOf (strV s)).run P w = .ok s.length w := by
  simp [Builtin.lenOf, strV, ByteArray.size]
section
variable {P : Program} (w : World)
theorem append_str_nil (t u ty e : TypeId) (i : TypeInfo) (z : Value) (ht : P.underlying t = some (.slice e)) (hu : P.underlying u = some .string) (hi : P.info? e = some i) (hz : i.zero = some z)
    (s : List UInt8) (h0 : 0 < s.length) (h63 : (s.length : Int) ≤ 9223372036854775807) (h48 : s.length * i.bytes ≤ 281474976710656) :
    (Builtin.append_ #[t, u] ty #[.slice none 0 0, strV s]).run P w =
      .ok (.slice (some ⟨w.heap.size, 0, none⟩) s.length (grownCap w s.length 0 e)) (w.drew.alloc (.cells ((bV s).toArray ++ Builtin.zeroCells z.cells (grownCap w s.length 0 e - s.length)) e)) := by
  have hn : s.length ≠ 0 := by omega
  have h63' : ¬ (9223372036854775807 < (s.length : Int)) := by omega
  have h48' : ¬ (281474976710656 < Builtin.nextslicecap s.length 0 * i.bytes) := by rw [nextslicecap_zero h0]; omega
  have hf := firstCells_str (P := P) w.drew i.size s
  have hl := lenOf_str (P := P) w s
  simp [Builtin.append_, run_underlying ht, run_underlying hu, sizeOf, typeInfo, zeroValue, hi, hz, hl, hf, hn, h63', h48', Question.forced, newRow, grownCap, run_firstCells_none]
theorem append_str_room (t u ty e : TypeId) (i : TypeInfo) (ht : P.underlying t = some (.slice e)) (hu : P.underlying u = some .string) (hi : P.info? e = some i) (hs1 : i.size = 1)
    (g sLen sCap : Nat) (cur : Array Value) (hg : w.heap[g]? = some (.cells cur e (0, 0))) (s : List UInt8) (hroom : sLen + s.length ≤ sCap) (hfit : sLen + s.length ≤ cur.size) :
    (Builtin.append_ #[t, u] ty #[.slice (some ⟨g, 0, none⟩) sLen sCap, strV s]).run P w =
      .ok (.slice (some ⟨g, 0, none⟩) (sLen + s.length) sCap) (w.setRow g (cur.toList.take sLen ++ bV s ++ cur.toList.drop (sLen + s.length)).toArray) := by
  have hf := firstCells_str (P := P) w 1 s
  have hl := lenOf_str (P := P) w s
  have hst := run_storeCells_at P g sLen e (bV s) 0 cur w hg (by simpa [bV] using hfit) (by intro y hy; simp [bV] at hy; obtain ⟨_, _, rfl⟩ := hy; rfl)
  simp only [Nat.add_zero, bV_len] at hst
  simp [Builtin.append_, run_underlying ht, run_underlying hu, sizeOf, typeInfo, hi, hl, hroom, hf, Addr.add_lit, hs1, hst]
theorem append_str_grow (t u ty e : TypeId) (i : TypeInfo) (z : Value) (ht : P.underlying t = some (.slice e)) (hu : P.underlying u = some .string) (hi : P.info? e = some i) (hz : i.zero = some z)
    (b : Addr) (sLen sCap : Nat) (olds : List Value) (hlo : olds.length = sLen * i.size) (holds : ∀ j v, olds[j]? = some v → w.cell? (b.add j) = some v) (s : List UInt8)
    (hg : sCap < sLen + s.length) (h63 : ((sLen + s.length : Nat) : Int) ≤ 9223372036854775807) (hfit : Builtin.nextslicecap (sLen + s.length) sCap * i.bytes ≤ 281474976710656) :
    (Builtin.append_ #[t, u] ty #[.slice (some b) sLen sCap, strV s]).run P w =
      .ok (.slice (some ⟨w.heap.size, 0, none⟩) (sLen + s.length) (grownCap w (sLen + s.length) sCap e))
        (w.drew.alloc (.cells (olds.toArray ++ (bV s).toArray ++ Builtin.zeroCells z.cells (grownCap w (sLen + s.length) sCap e - (sLen + s.length))) e)) := by
  have hn : ¬ (sLen + s.length ≤ sCap) := by omega
  have h63' : ¬ (9223372036854775807 < ((sLen : Int) + (s.length : Int))) := by omega
  have h48' : ¬ (281474976710656 < Builtin.nextslicecap (sLen + s.length) sCap * i.bytes) := by omega
  have hf := firstCells_str (P := P) w.drew i.size s
  have hl := lenOf_str (P := P) w s
  have hfo := run_firstCells_some (P := P) w.drew i.size sLen b sLen sCap olds hlo (by simpa using holds)
  simp [Builtin.append_, run_underlying ht, run_underlying hu, sizeOf, typeInfo, zeroValue, hi, hz, hl, hn, h63', h48', Question.forced, hf, hfo, newRow, grownCap]
  congr 2
  apply Array.ext'
  simp [List.append_assoc]
theorem run_append_str {base : Nat} {t u ty e : TypeId} {i : TypeInfo} {z : Value} {bytes : Nat} (ht : P.underlying t = some (.slice e)) (hu : P.underlying u = some .string) (hi : P.info? e = some i) (hz : i.zero = some z) (hsize : i.size = 1) (hby : i.bytes = bytes) (hzs : z.cells.size = 1)
    {v : Value} {n : Nat} {xs : List Value} (hown : w.ownsRow base e 1 v n xs) (s : List UInt8) (h63 : n + s.length ≤ maxLen) (hbytes : (n + s.length) * bytes ≤ 140737488355328) (hbase : base ≤ w.heap.size) :
    ∃ v' w', (Builtin.append_ #[t, u] ty #[v, strV s]).run P w = .ok v' w' ∧ w'.ownsRow base e 1 v' (n + s.length) (xs ++ bV s) ∧ Gb w w' v.ownBlock ∧ NewOr w v v' := by
  subst hby
  have hsmall : n + s.length ≤ 9223372036854775807 := by simp only [maxLen] at h63; omega
  have hxl : xs.length = n := by simpa using hown.1
  have hlen : (xs ++ bV s).length = (n + s.length) * 1 := by rw [List.length_append, hxl, bV_len, Nat.mul_one]
  have grown : ∀ (old : Nat), old < n + s.length → ∀ (row : Option Nat),
      (w.drew.alloc (.cells (xs.toArray ++ (bV s).toArray ++ Builtin.zeroCells z.cells (grownCap w (n + s.length) old e - (n + s.length))) e)).ownsRow base e 1
        (.slice (some ⟨w.heap.size, 0, none⟩) (n + s.length) (grownCap w (n + s.length) old e)) (n + s.length) (xs ++ bV s) ∧
      Gb w (w.drew.alloc (.cells (xs.toArray ++ (bV s).toArray ++ Builtin.zeroCells z.cells (grownCap w (n + s.length) old e - (n + s.length))) e)) row := by
    intro old ho row
    have hge := grownCap_ge w (n + s.length) old e
    have hcm : grownCap w (n + s.length) old e ≤ maxLen := grownCap_le_maxLen w (n + s.length) old e h63
    refine ⟨⟨hlen, .inr ⟨w.heap.size, _, _, rfl, hbase, heap_alloc_new w.drew _, hge, hcm, ?_, ?_⟩⟩, ⟨rfl, rfl, rfl, by simp, fun k hk _ => heap_alloc_old w.drew _ hk, Nat.le_succ _⟩⟩
    · simp only [Array.size_append, List.size_toArray, size_zeroCells, hzs, hxl, bV_len, Nat.mul_one]
      omega
    · simp only [Array.toList_append, List.append_assoc]
      rw [← List.append_assoc, ← hlen]
      exact List.take_left
  rcases hown.2 with ⟨rfl, rfl⟩ | ⟨g, cap, cur, rfl, hbg, hg, hnc, hcm, hcs, htake⟩
  · have hx : xs = [] := List.eq_nil_of_length_eq_zero hxl
    subst hx
    by_cases hm : s.length = 0
    · have hn : s = [] := List.eq_nil_of_length_eq_zero hm
      subst hn
      refine ⟨.slice none 0 0, w, ?_, World.ownsRow_nil w base e 1, ⟨rfl, rfl, rfl, Nat.le_refl _, fun _ _ _ => rfl, Nat.le_refl _⟩, .inl rfl⟩
      have hl := lenOf_str (P := P) w []
      have hf := firstCells_str (P := P) w i.size []
      simp only [List.length_nil] at hl hf
      simp [Builtin.append_, run_underlying ht, run_underlying hu, sizeOf, typeInfo, hi, hl, hf]
    · have hr := append_str_nil (P := P) w t u ty e i z ht hu hi hz s (by omega) (by omega) (by have hb := hbytes; simp only [Nat.zero_add] at hb; omega)
      have hgr := grown 0 (by omega) (Value.ownBlock (.slice none 0 0))
      simp only [Nat.zero_add, List.nil_append, Array.empty_append] at hgr ⊢
      exact ⟨_, _, hr, hgr.1, hgr.2, .inr ⟨w.heap.size, Nat.le_refl _, rfl⟩⟩
  · by_cases hroom : n + s.length ≤ cap
    · have hfit : n + s.length ≤ cur.size := by rw [hcs]; omega
      have hr := append_str_room (P := P) w t u ty e i ht hu hi hsize g n cap cur hg s hroom hfit
      refine ⟨_, _, hr, ⟨hlen, .inr ⟨g, cap, _, rfl, hbg, setRow_heap w g cur _ e _ hg, hroom, hcm, ?_, ?_⟩⟩, ⟨rfl, rfl, rfl, by simp, fun k _ hk => setRow_other w g k _ (fun e => hk (by simp [Value.ownBlock, e])), Nat.le_refl _⟩, .inl rfl⟩
      · simp only [List.size_toArray, List.length_append, List.length_take, List.length_drop, Array.length_toList, bV_len]
        omega
      · rw [Nat.mul_one] at htake
        rw [htake, ← hlen]
        exact List.take_left
    · have holds : ∀ j u, xs[j]? = some u → w.cell? ((⟨g, 0, none⟩ : Addr).add j) = some u := hown.cells (g := g) rfl
      have hr := append_str_grow (P := P) w t u ty e i z ht hu hi hz ⟨g, 0, none⟩ n cap xs (by rw [hxl, hsize, Nat.mul_one]) holds s (by omega) (by omega) (growslice_fits (by omega) hbytes)
      have hgr := grown cap (by omega) (Value.ownBlock (.slice (some ⟨g, 0, none⟩) n cap))
      exact ⟨_, _, hr, hgr.1, hgr.2, .inr ⟨w.heap.size, Nat.le_refl _, rfl⟩⟩
end
section
variable {P : Program} {fn : Func} {k : Kont} {l : Env} {w : World} {ops : Array Oper} {rest : List Oper} {d : Nat} {ty : TypeId} {pos : String} {after : Array Edge}
variable {X : List Nat} {w0 : World} {F0 F G : Frz} {L : List Ob}
theorem W_appS {ts u e : TypeId} {bytes : Nat} {z v : Value} {xs ys r : List UInt8} {sx xx : Operand} (i : Nat) (hlt : Nat.blt d fn.ntmps = true) (ht : P.underlying ts = some (.slice e)) (hu : P.underlying u = some .string) (hrow : (P.info? e).map (fun i => (i.zero, i.size, i.bytes)) = some (some z, 1, bytes)) (hzs : z.cells.size = 1) (hby : Nat.ble bytes 131072 = true)
    (hs : ev l sx = some v) (hxx : ev l xx = some (strV ys)) (hS : St X w0 F0 F L w) (hi : L[i]? = some (.row tB e v xs)) (hn : app xs ys = some r)
    (h : ∀ v' w', St X w0 F0 F (L.set i (.row tB e v' r)) w' → W P fn k ops rest ((d, v') :: l) w') :
    W P fn k ops (⟨some d, .call { callee := .builtin .append, args := #[sx, xx], argTypes := #[ts, u] }, ty, pos, after, none⟩ :: rest) l w := by
  obtain ⟨hle, rfl⟩ := app_some hn
  obtain ⟨css, hr, hO1, hO2⟩ := hS.ok hi
  have hb : bytes ≤ 131072 := Nat.le_of_ble_eq_true hby
  obtain ⟨inf, hinf, hz0, hz1, hz2⟩ := info_parts hrow
  have hcl : css.length = xs.length := hr.1
  have hbytes : (css.length + ys.length) * bytes ≤ 140737488355328 := Nat.le_trans (Nat.mul_le_mul (by rw [hcl]; exact hle) hb) (by decide)
  obtain ⟨v', w', hrun, hown', hG, hN⟩ := run_append_str (P := P) (ty := ty) w ht hu hinf hz0 hz1 hz2 hzs hO2 ys (by simp only [maxLen]; omega) hbytes (Nat.zero_le _)
  refine W_val rfl rfl hlt (fun a ha => by simp [execOp, resolve, invoke, builtin, ha.eval hs, ha.eval hxx, hrun]) (h v' w' (hS.put _ hi hG ⟨css ++ ys.map fun b => ⟨[.int .u8 (b.toNat : Int)], rfl⟩, ⟨by simp [hcl], fun q dd y hq hy => ?_⟩, fun d => d.2, ?_⟩ ?_))
  · by_cases hlq : q < css.length
    · rw [List.getElem?_append_left hlq] at hq
      rw [List.getElem?_append_left (by rw [← hcl]; exact hlq)] at hy
      exact hr.2 q dd y hq hy
    · rw [List.getElem?_append_right (by omega)] at hq
      rw [List.getElem?_append_right (by rw [← hcl]; omega), ← hcl] at hy
      simp only [List.getElem?_map, hy, Option.map_some, Option.some.injEq] at hq
      subst hq; rfl
  · have e1 : (css ++ ys.map fun b => (⟨[.int .u8 (b.toNat : Int)], rfl⟩ : Cl tB.size)).length = css.length + ys.length := by simp
    have e2 : (css ++ ys.map fun b => (⟨[.int .u8 (b.toNat : Int)], rfl⟩ : Cl tB.size)).flatMap Subtype.val = css.flatMap Subtype.val ++ bV ys := by
      rw [List.flatMap_append, List.flatMap_map]
      exact congrArg _ (bV_flat ys)
    rw [e1, e2]; exact hown'
  · rcases hN with hN | ⟨g, hg, hv⟩
    · exact .inl (by simp [Ob.blks, hN])
    · exact .inr fun g' hg' => by have : some g = some g' := hv.symm.trans (mem_row.1 hg'); obtain rfl := Option.some.inj this; exact hg
end
end Go.Wk
