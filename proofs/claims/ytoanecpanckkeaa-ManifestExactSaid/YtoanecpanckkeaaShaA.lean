import Derived.Test.YtoanecpanckkeaaTy
namespace Go.Wk.Sha
open Go.Proofs Go.RowKit
set_option linter.unusedVariables false

/-- a number of bytes, the highest first -/
def hiL (bs : List UInt8) : UInt64 := bs.foldl (fun x c => x <<< (UInt64.ofNat 8) ||| c.toUInt64) 0
theorem hiL_snoc (bs : List UInt8) (k : Nat) (h : k < bs.length) : hiL (bs.take (k+1)) = (hiL (bs.take k)) <<< (UInt64.ofNat 8) ||| (bs[k]).toUInt64 := by
  rw [List.take_succ_eq_append_getElem h]; simp only [hiL, List.foldl_append, List.foldl_cons, List.foldl_nil]

theorem high_ret (bs : List UInt8) (vb : Value) (w : World) (lo hi : Nat) (hb : Sl lo hi w.heap 1 encB vb bs) (hlen : bs.length ≤ 1000000000) : Ret Try.prog 74 #[vb] w fun v w' => v = .int .u64 ((hiL bs).toNat : Int) ∧ w = w' := by
  refine Ret_of (args := [vb]) Try.func74 rfl rfl ?_
  change C _ _ _ _ [(0, vb)] _
  refine C_seq ?_
  refine C_region ?_
  refine W_assign rfl rfl ?_
  refine W_nil ?_
  refine N_code ?_
  refine C_seq ?_
  refine C_region ?_
  refine W_assign rfl rfl ?_
  refine W_nil ?_
  refine N_code ?_
  refine C_seq ?_
  refine C_seq ?_
  refine C_region ?_
  refine W_move rfl rfl ?_
  refine W_len_sl rfl Go.Proofs.Try.underlying25 rfl hb ?_
  refine W_move rfl rfl ?_
  refine W_nil ?_
  refine N_code ?_
  refine C_block ?_
  refine C_loop (fun (x : Nat) wr => x ≤ bs.length ∧ w = wr) (fun x => [(3, .int .u64 ((hiL (bs.take x)).toNat : Int)), (6, vb), (7, .int .i64 (bs.length : Int)), (8, .int .i64 (x : Int))]) (fun x => bs.length - x) (0) ?_ ?_ ?_
  · exact ⟨Nat.zero_le _, rfl⟩
  · exact ⟨rfl, rfl, rfl, rfl, trivial⟩
  rintro x w1 ⟨hx, rfl⟩
  refine C_seq ?_
  refine C_region ?_
  refine W_lss rfl rfl rfl ?_
  refine W_nil ?_
  refine N_code ?_
  refine C_seq ?_
  refine C_cond rfl (fun hc9 => ?_) (fun hc9 => ?_)
  · have hc9 := of_decide_eq_true hc9
    refine C_skip ?_
    refine N_code ?_
    refine C_seq ?_
    refine C_block ?_
    refine C_seq ?_
    refine C_region ?_
    refine W_index _ rfl Go.Proofs.Try.underlying25 Ty.cells5 Ty.info5 rfl rfl hb rfl (by omega) ?_
    refine W_load1 _ 0 rfl Ty.cell5 rfl hb rfl (List.getElem?_eq_getElem (by omega)) rfl ?_
    refine W_assign rfl rfl ?_
    refine W_nil ?_
    refine N_code ?_
    refine C_region ?_
    refine W_move rfl rfl ?_
    refine W_shl rfl rfl rfl (by decide) (by decide) (u64_shl _ _ 8 rfl (by decide)) ?_
    refine W_move rfl rfl ?_
    refine W_conv rfl rfl Ty.some5 Go.Proofs.Try.underlying99 (u8_u64 _) ?_
    refine W_bits (by simp) rfl rfl rfl (u64_or _ _) ?_
    refine W_assign rfl rfl ?_
    refine W_nil ?_
    refine N_block ?_
    refine N_code ?_
    refine C_region ?_
    refine W_add rfl rfl rfl (i64_id (by omega) (by omega)) ?_
    refine W_move rfl rfl ?_
    refine W_nil ?_
    exact N_again (x + 1) ⟨by omega, rfl⟩ ⟨look_int rfl (by rw [hiL_snoc _ _ (by omega)]), rfl, rfl, look_int rfl (by omega), trivial⟩ (by omega)
  · have hc9 := of_decide_eq_false hc9
    refine C_exit _ rfl ?_
    refine N_code ?_
    refine C_seq ?_
    refine C_region ?_
    refine W_move rfl rfl ?_
    refine W_assign rfl rfl ?_
    refine W_nil ?_
    refine N_code ?_
    refine C_ret rfl rfl ?_
    exact ⟨by rw [show x = bs.length from by omega, List.take_length]; rfl, rfl⟩

def lenByte (n : UInt64) (i : Nat) : UInt8 := (n >>> UInt64.ofNat (8 * (7 - i))).toUInt8
def zerosOf (n : Nat) : Nat := (119 - n % 64) % 64
/-- a text, padded -/
def padL (bs : List UInt8) : List UInt8 := bs ++ [128] ++ List.replicate (zerosOf bs.length) 0 ++ (List.range 8).map (lenByte ((UInt64.ofNat bs.length) <<< UInt64.ofNat 3))
theorem zeros_eq {n z : Nat} (h : (n + 1 + z) % 64 = 56) (hz : z < 64) : z = zerosOf n := by unfold zerosOf; omega
theorem range_snoc {α : Type} (f : Nat → α) (j : Nat) : (List.range (j + 1)).map f = (List.range j).map f ++ [f j] := by rw [List.range_succ, List.map_append]; rfl

theorem padded_ret (bs : List UInt8) (vb : Value) (w : World) (lo hi : Nat) (hb : Sl lo hi w.heap 1 encB vb bs) (hlen : bs.length ≤ 1000000000) (hhi : hi ≤ w.heap.size) : Ret Try.prog 73 #[vb] w fun v w' => Sl w.heap.size w'.heap.size w'.heap 1 encB v (padL bs) ∧ Below w.heap.size w w' := by
  refine Ret_of (args := [vb]) Try.func73 rfl rfl ?_
  change C _ _ _ _ [(0, vb)] _
  have hL := Led.nil w
  refine C_seq ?_
  refine C_region ?_
  refine W_assign rfl rfl ?_
  refine W_nil ?_
  refine N_code ?_
  refine C_seq ?_
  refine C_region ?_
  refine W_bslice_ow encB [] rfl Go.Proofs.Try.underlying25 Ty.cells5 Ty.zero5 rfl rfl rfl (fun _ => rfl) rfl rfl rfl ?_
  intro u1 w1 hsz1 hB1 hO
  replace hb := hb.ext hB1
  replace hL := hL.call hB1
  refine W_move rfl rfl ?_
  refine W_append rfl Go.Proofs.Try.underlying25 Ty.row5 rfl (by decide) rfl rfl hO hb (encB_one _) (by simp [maxLen]; omega) (by simp; omega) (by omega) ?_
  intro v2 w2 hN2 hG2 _
  have hZ2 := hG2.size
  replace hb := hb.grown hG2 hO (by constructor <;> omega)
  replace hL := hL.grown0 hG2 hO (by omega)
  replace hO := hN2; clear hN2 hG2
  refine W_bslice_sl encB [128] rfl Go.Proofs.Try.underlying25 Ty.cells5 Ty.zero5 rfl rfl rfl (fun _ => rfl) rfl rfl rfl ?_
  intro u3 w3 hsz3 hB3 hx3
  replace hb := hb.ext hB3
  replace hL := hL.call hB3
  replace hO := hO.call hB3
  refine W_append rfl Go.Proofs.Try.underlying25 Ty.row5 rfl (by decide) rfl rfl hO hx3 (encB_one _) (by simp [maxLen]; omega) (by simp; omega) (by omega) ?_
  intro v4 w4 hN4 hG4 _
  have hZ4 := hG4.size
  replace hb := hb.grown hG4 hO (by constructor <;> omega)
  replace hL := hL.grown0 hG4 hO (by omega)
  replace hO := hN4; clear hN4 hG4
  refine W_assign rfl rfl ?_
  refine W_nil ?_
  refine N_code ?_
  refine C_seq ?_
  refine C_block ?_
  refine C_loop (fun (x : Nat × Value) wr => Ow wr w.heap.size 5 1 encB x.2 (bs ++ [128] ++ List.replicate x.1 0) ∧ Led w.heap.size w wr [] ∧ w.heap.size ≤ wr.heap.size ∧ Sl lo hi wr.heap 1 encB vb bs ∧ x.1 < 64 ∧ ∀ j, j < x.1 → (bs.length + 1 + j) % 64 ≠ 56) (fun x => [(0, vb), (3, x.2)]) (fun x => 64 - x.1) (0, v4) ?_ ?_ ?_
  · exact ⟨by simpa using hO, hL, by omega, hb, by omega, fun j hj => by omega⟩
  · exact ⟨rfl, rfl, trivial⟩
  rintro ⟨z, vo⟩ w5 ⟨hO, hL, hq0, hb, hz, hno⟩
  simp only at hO hz hno
  refine C_seq ?_
  refine C_seq ?_
  refine C_region ?_
  refine W_move rfl rfl ?_
  refine W_len_sl rfl Go.Proofs.Try.underlying25 rfl hO.sl ?_
  refine W_rem rfl rfl rfl (by decide) (nat_tmod _ 64 _ rfl) ?_
  refine W_neq rfl rfl rfl ?_
  refine W_nil ?_
  refine N_code ?_
  refine C_cond rfl (fun hc14 => ?_) (fun hc14 => ?_)
  · have hc14 := of_decide_eq_true hc14
    refine C_skip ?_
    refine N_code ?_
    refine C_block ?_
    refine C_region ?_
    refine W_move rfl rfl ?_
    refine W_bslice_sl encB [0] rfl Go.Proofs.Try.underlying25 Ty.cells5 Ty.zero5 rfl rfl rfl (fun _ => rfl) rfl rfl rfl ?_
    intro u6 w6 hsz6 hB6 hx6
    replace hb := hb.ext hB6
    replace hL := hL.call hB6
    replace hO := hO.call hB6
    refine W_append rfl Go.Proofs.Try.underlying25 Ty.row5 rfl (by decide) rfl rfl hO hx6 (encB_one _) (by simp [maxLen]; omega) (by simp; omega) (by omega) ?_
    intro v7 w7 hN7 hG7 _
    have hZ7 := hG7.size
    replace hb := hb.grown hG7 hO (by constructor <;> omega)
    replace hL := hL.grown0 hG7 hO (by omega)
    replace hO := hN7; clear hN7 hG7
    refine W_assign rfl rfl ?_
    refine W_nil ?_
    refine N_block ?_
    have hne : (bs.length + 1 + z) % 64 ≠ 56 := by intro h; apply hc14; simp; omega
    exact N_again (z + 1, _) ⟨by simpa [List.replicate_succ', List.append_assoc] using hO, hL, by omega, hb, by have := hno; (by_cases hzz : z = 63; (exfalso; have := hno ((119 - bs.length % 64) % 64); (by_cases hq : (119 - bs.length % 64) % 64 = 63; omega; exact this (by omega) (by omega))); (show z + 1 < 64; omega)), fun j hj => by (by_cases hjz : j = z; (subst hjz; exact hne); exact hno j (by have : j < z + 1 := hj; omega))⟩ ⟨rfl, rfl, trivial⟩ (by show 64 - (z + 1) < 64 - z; omega)
  · have hc14 := of_decide_eq_false hc14
    have hz56 : (bs.length + 1 + z) % 64 = 56 := by simp at hc14; omega
    have hze : z = zerosOf bs.length := zeros_eq hz56 hz
    subst hze
    refine C_exit _ rfl ?_
    refine N_code ?_
    refine C_seq ?_
    refine C_region ?_
    refine W_move rfl rfl ?_
    refine W_len_sl rfl Go.Proofs.Try.underlying25 rfl hb ?_
    refine W_conv rfl rfl Ty.some3 Go.Proofs.Try.underlying99 (i64_u64 _) ?_
    refine W_shl rfl rfl rfl (by decide) (by decide) (u64_shl _ _ 3 rfl (by decide)) ?_
    refine W_assign rfl rfl ?_
    refine W_nil ?_
    refine N_code ?_
    refine C_seq ?_
    refine C_seq ?_
    refine C_region ?_
    refine W_assign rfl rfl ?_
    refine W_nil ?_
    refine N_code ?_
    refine C_block ?_
    refine C_loop (fun (x : Nat × Value) wr => Ow wr w.heap.size 5 1 encB x.2 (bs ++ [128] ++ List.replicate (zerosOf bs.length) 0 ++ (List.range x.1).map (lenByte ((UInt64.ofNat bs.length) <<< UInt64.ofNat 3))) ∧ Led w.heap.size w wr [] ∧ w.heap.size ≤ wr.heap.size ∧ x.1 ≤ 8) (fun x => [(3, x.2), (4, .int .u64 (((UInt64.ofNat bs.length) <<< UInt64.ofNat 3).toNat : Int)), (5, .int .i64 (7 - (x.1 : Int)))]) (fun x => 8 - x.1) (0, vo) ?_ ?_ ?_
    · exact ⟨by simpa using hO, hL, by omega, by omega⟩
    · exact ⟨rfl, rfl, look_int rfl (by simp), trivial⟩
    rintro ⟨j, vo2⟩ w8 ⟨hO, hL, hq0, hj⟩
    simp only at hO hj
    refine C_seq ?_
    refine C_seq ?_
    refine C_region ?_
    refine W_move rfl rfl ?_
    refine W_geq rfl rfl rfl ?_
    refine W_nil ?_
    refine N_code ?_
    refine C_cond rfl (fun hc23 => ?_) (fun hc23 => ?_)
    · have hc23 := of_decide_eq_true hc23
      refine C_skip ?_
      refine N_code ?_
      refine C_seq ?_
      refine C_block ?_
      refine C_region ?_
      refine W_move rfl rfl ?_
      refine W_move rfl rfl ?_
      refine W_move rfl rfl ?_
      refine W_mul rfl rfl rfl (i64_id (by omega) (by omega)) ?_
      refine W_shr rfl rfl rfl (by omega) (by simp [IntKind.bits]; omega) (u64_shr _ _ (8 * (7 - j)) (by omega) (by omega)) ?_
      refine W_conv rfl rfl Ty.some99 Go.Proofs.Try.underlying5 (u64_u8 _) ?_
      refine W_bslice_sl encB [_] rfl Go.Proofs.Try.underlying25 Ty.cells5 Ty.zero5 rfl rfl rfl (fun _ => rfl) rfl rfl rfl ?_
      intro u9 w9 hsz9 hB9 hx9
      replace hL := hL.call hB9
      replace hO := hO.call hB9
      refine W_append rfl Go.Proofs.Try.underlying25 Ty.row5 rfl (by decide) rfl rfl hO hx9 (encB_one _) (by simp [maxLen]; omega) (by simp; omega) (by omega) ?_
      intro v10 w10 hN10 hG10 _
      have hZ10 := hG10.size
      replace hL := hL.grown0 hG10 hO (by omega)
      replace hO := hN10; clear hN10 hG10
      refine W_assign rfl rfl ?_
      refine W_nil ?_
      refine N_block ?_
      refine N_code ?_
      refine C_region ?_
      refine W_move rfl rfl ?_
      refine W_subi rfl rfl rfl (i64_id (by omega) (by omega)) ?_
      refine W_assign rfl rfl ?_
      refine W_nil ?_
      exact N_again (j + 1, _) ⟨by rw [range_snoc, ← List.append_assoc]; exact hO, hL, by omega, by show j + 1 ≤ 8; omega⟩ ⟨rfl, rfl, look_int rfl (by show (7 - (j : Int) - 1) = 7 - ((j + 1 : Nat) : Int); omega), trivial⟩ (by show 8 - (j + 1) < 8 - j; omega)
    · have hc23 := of_decide_eq_false hc23
      refine C_exit _ rfl ?_
      refine N_code ?_
      refine C_seq ?_
      refine C_region ?_
      refine W_move rfl rfl ?_
      refine W_assign rfl rfl ?_
      refine W_nil ?_
      refine N_code ?_
      refine C_ret rfl rfl ?_
      have hj8 : j = 8 := by omega
      subst hj8
      exact ⟨hO.sl, hL.below⟩

end Go.Wk.Sha
