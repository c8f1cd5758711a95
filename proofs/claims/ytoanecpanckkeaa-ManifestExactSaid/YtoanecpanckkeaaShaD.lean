import Derived.Test.YtoanecpanckkeaaShaC
namespace Go.Wk.Sha
open Go.Proofs Go.RowKit
set_option linter.unusedVariables false

theorem grow_ret (n : Nat) (w : World) (hn : n ≤ 1000000000) : Ret Try.prog 97 #[.slice none 0 0, .int .i64 (n : Int)] w fun v w' => Ow w' w.heap.size 5 1 encB v [] ∧ Below w.heap.size w w' := by
  refine Ret_of (args := [.slice none 0 0, .int .i64 (n : Int)]) Try.func97 rfl rfl ?_
  change C _ _ _ _ [(0, .slice none 0 0), (1, .int .i64 (n : Int))] _
  refine C_seq ?_
  refine C_region ?_
  refine W_assign rfl rfl ?_
  refine W_nil ?_
  refine N_code ?_
  refine C_seq ?_
  refine C_seq ?_
  refine C_region ?_
  refine W_move rfl rfl ?_
  refine W_lss rfl rfl rfl ?_
  refine W_nil ?_
  refine N_code ?_
  refine C_cond_f (look_bool rfl (by simp)) ?_
  refine C_skip ?_
  refine N_code ?_
  refine C_seq ?_
  refine C_seq ?_
  refine C_region ?_
  refine W_move rfl rfl ?_
  refine W_move rfl rfl ?_
  refine W_cap rfl Go.Proofs.Try.underlying25 rfl ?_
  refine W_move rfl rfl ?_
  refine W_len rfl Go.Proofs.Try.underlying25 rfl ?_
  refine W_subi rfl rfl rfl (i64_id (by omega) (by omega)) ?_
  refine W_subi rfl rfl rfl (i64_id (by omega) (by omega)) ?_
  refine W_assign rfl rfl ?_
  refine W_nil ?_
  refine N_code ?_
  refine C_seq ?_
  refine C_region ?_
  refine W_move rfl rfl ?_
  refine W_gtr rfl rfl rfl ?_
  refine W_nil ?_
  refine N_code ?_
  refine C_cond rfl (fun hc16 => ?_) (fun hc16 => ?_)
  · have hc16 := of_decide_eq_true hc16
    refine C_region ?_
    refine W_move rfl rfl ?_
    refine W_move rfl rfl ?_
    refine W_cap rfl Go.Proofs.Try.underlying25 rfl ?_
    refine W_slice_to 0 rfl Go.Proofs.Try.underlying25 Ty.info5 rfl rfl rfl (by omega) ?_
    refine W_move rfl rfl ?_
    refine W_append_zeros n rfl Go.Proofs.Try.underlying25 Go.Proofs.Try.underlying3 Ty.row5 rfl rfl rfl (by simp) (by simp at hc16; omega) (by omega) (by omega) ?_
    intro w1 cap cs hcn hcm hB1 hlt1 hblk hcs
    refine W_move rfl rfl ?_
    refine W_len rfl Go.Proofs.Try.underlying25 rfl ?_
    refine W_slice_to 0 rfl Go.Proofs.Try.underlying25 Ty.info5 rfl rfl rfl (by omega) ?_
    refine W_assign rfl rfl ?_
    refine W_nil ?_
    refine N_code ?_
    refine C_seq ?_
    refine C_region ?_
    refine W_move rfl rfl ?_
    refine W_assign rfl rfl ?_
    refine W_nil ?_
    refine N_code ?_
    refine C_ret rfl rfl ?_
    exact ⟨ow_empty hblk (fun _ => rfl) (by omega) hcm (Nat.le_refl _), hB1⟩
  · have hc16 := of_decide_eq_false hc16
    refine C_skip ?_
    refine N_code ?_
    refine C_seq ?_
    refine C_region ?_
    refine W_move rfl rfl ?_
    refine W_assign rfl rfl ?_
    refine W_nil ?_
    refine N_code ?_
    refine C_ret rfl rfl ?_
    exact ⟨Ow.nil _ _ _ _ _ (fun _ => rfl), Below.refl _ _⟩

theorem take_sum_le (bss : List (List UInt8)) (j : Nat) : (bss.take j).flatten.length ≤ bss.flatten.length := take_flat_le bss j

theorem concat_ret (bss : List (List UInt8)) (vs : List Value) (vb : Value) (w : World) (lo hi : Nat) (hR : Rw lo hi w.heap vb vs bss) (hhi : hi ≤ w.heap.size) (hsum : bss.flatten.length ≤ 1000000000) (hmax : bss.length ≤ 1000000000) : Ret Try.prog 71 #[vb] w fun v w' => Ow w' w.heap.size 5 1 encB v bss.flatten ∧ Below w.heap.size w w' := by
  refine Ret_of (args := [vb]) Try.func71 rfl rfl ?_
  change C _ _ _ _ [(0, vb)] _
  have hlen := hR.len
  have hL := Led.nil w
  refine C_seq ?_
  refine C_region ?_
  refine W_assign rfl rfl ?_
  refine W_nil ?_
  refine N_code ?_
  refine C_seq ?_
  refine C_region ?_
  refine W_assign rfl rfl ?_
  refine W_nil ?_
  refine N_code ?_
  refine C_seq ?_
  refine C_seq ?_
  refine C_region ?_
  refine W_move rfl rfl ?_
  refine W_len_sl rfl Go.Proofs.Try.underlying52 rfl hR.out ?_
  refine W_move rfl rfl ?_
  refine W_nil ?_
  refine N_code ?_
  refine C_block ?_
  refine C_loop (fun (x : Nat) wr => x ≤ bss.length ∧ w = wr) (fun x => [(0, vb), (3, .int .i64 ((bss.take x).flatten.length : Int)), (9, vb), (10, .int .i64 (vs.length : Int)), (11, .int .i64 (x : Int))]) (fun x => bss.length - x) (0) ?_ ?_ ?_
  · exact ⟨by omega, rfl⟩
  · exact ⟨rfl, look_int rfl (by simp), rfl, rfl, rfl, trivial⟩
  rintro x w1 ⟨hx, rfl⟩
  have htl := take_flat_le bss x
  refine C_seq ?_
  refine C_region ?_
  refine W_lss rfl rfl rfl ?_
  refine W_nil ?_
  refine N_code ?_
  refine C_seq ?_
  refine C_cond rfl (fun hc12 => ?_) (fun hc12 => ?_)
  · have hc12 := of_decide_eq_true hc12
    refine C_skip ?_
    refine N_code ?_
    refine C_seq ?_
    refine C_block ?_
    refine C_seq ?_
    refine C_region ?_
    refine W_index _ rfl Go.Proofs.Try.underlying52 Ty.cells25 Ty.info25 rfl rfl hR.out rfl (by omega) ?_
    refine W_load1 _ 0 rfl Ty.cell25 rfl hR.out rfl (List.getElem?_eq_getElem (by omega)) rfl ?_
    have hbi := hR.at_ x (by omega)
    have hl2 := take_flat_le bss (x + 1)
    have hl3 : (bss.take (x + 1)).flatten.length = (bss.take x).flatten.length + (bss[x]'(by omega)).length := by rw [take_flat_succ bss x (by omega)]; simp
    refine W_assign rfl rfl ?_
    refine W_nil ?_
    refine N_code ?_
    refine C_seq ?_
    refine C_region ?_
    refine W_move rfl rfl ?_
    refine W_move rfl rfl ?_
    refine W_len_sl rfl Go.Proofs.Try.underlying25 rfl hbi ?_
    refine W_add rfl rfl rfl (i64_id (by omega) (by omega)) ?_
    refine W_assign rfl rfl ?_
    refine W_nil ?_
    refine N_code ?_
    refine C_seq ?_
    refine C_region ?_
    refine W_move rfl rfl ?_
    refine W_lss rfl rfl rfl ?_
    refine W_nil ?_
    refine N_code ?_
    refine C_cond_f (look_bool rfl (by simp; omega)) ?_
    refine C_skip ?_
    refine N_block ?_
    refine N_code ?_
    refine C_region ?_
    refine W_add rfl rfl rfl (i64_id (by omega) (by omega)) ?_
    refine W_move rfl rfl ?_
    refine W_nil ?_
    exact N_again (x + 1) ⟨by omega, rfl⟩ ⟨rfl, look_int rfl (by rw [take_flat_succ bss x (by omega)]; simp), rfl, rfl, look_int rfl (by omega), trivial⟩ (by omega)
  · have hc12 := of_decide_eq_false hc12
    refine C_exit _ rfl ?_
    refine N_code ?_
    refine C_seq ?_
    refine C_region ?_
    refine W_move rfl rfl ?_
    refine W_call rfl Ty.named97 rfl (grow_ret (bss.take x).flatten.length _ (by omega)) ?_
    rintro z2 w2 ⟨hO, hB2⟩
    replace hR := hR.call hB2
    replace hL := hL.call hB2
    have hq2 := hB2.size
    refine W_assign rfl rfl ?_
    refine W_nil ?_
    refine N_code ?_
    refine C_seq ?_
    refine C_seq ?_
    refine C_region ?_
    refine W_move rfl rfl ?_
    refine W_len_sl rfl Go.Proofs.Try.underlying52 rfl hR.out ?_
    refine W_move rfl rfl ?_
    refine W_nil ?_
    refine N_code ?_
    refine C_block ?_
    refine C_loop (fun (x : Nat × Value) wr => Ow wr w.heap.size 5 1 encB x.2 (bss.take x.1).flatten ∧ Led w.heap.size w wr [] ∧ w.heap.size ≤ wr.heap.size ∧ Rw lo hi wr.heap vb vs bss ∧ x.1 ≤ bss.length) (fun x => [(6, x.2), (25, vb), (26, .int .i64 (vs.length : Int)), (27, .int .i64 (x.1 : Int))]) (fun x => bss.length - x.1) (0, z2) ?_ ?_ ?_
    · exact ⟨by simpa using hO, hL, by omega, hR, by omega⟩
    · exact ⟨rfl, rfl, rfl, rfl, trivial⟩
    rintro ⟨j, vo⟩ w3 ⟨hO, hL, hq0, hR, hj⟩
    simp only at hO hj
    have htl := take_flat_le bss j
    refine C_seq ?_
    refine C_region ?_
    refine W_lss rfl rfl rfl ?_
    refine W_nil ?_
    refine N_code ?_
    refine C_seq ?_
    refine C_cond rfl (fun hc28 => ?_) (fun hc28 => ?_)
    · have hc28 := of_decide_eq_true hc28
      refine C_skip ?_
      refine N_code ?_
      refine C_seq ?_
      refine C_block ?_
      refine C_seq ?_
      refine C_region ?_
      refine W_index j rfl Go.Proofs.Try.underlying52 Ty.cells25 Ty.info25 rfl rfl hR.out rfl (by omega) ?_
      refine W_load1 _ 0 rfl Ty.cell25 rfl hR.out rfl (List.getElem?_eq_getElem (by omega)) rfl ?_
      have hbi := hR.at_ j (by omega)
      have hl2 := take_flat_le bss (j + 1)
      have hl3 : (bss.take (j + 1)).flatten.length = (bss.take j).flatten.length + (bss[j]'(by omega)).length := by rw [take_flat_succ bss j (by omega)]; simp
      refine W_assign rfl rfl ?_
      refine W_nil ?_
      refine N_code ?_
      refine C_region ?_
      refine W_move rfl rfl ?_
      refine W_move rfl rfl ?_
      refine W_append rfl Go.Proofs.Try.underlying25 Ty.row5 rfl (by decide) rfl rfl hO hbi (encB_one _) (by simp only [maxLen]; omega) (by omega) (by omega) ?_
      intro v4 w4 hN4 hG4 _
      have hZ4 := hG4.size
      replace hL := hL.grown0 hG4 hO (by omega)
      replace hR := hR.grown hG4 hO (by constructor <;> omega)
      replace hO := hN4; clear hN4 hG4
      refine W_assign rfl rfl ?_
      refine W_nil ?_
      refine N_block ?_
      refine N_code ?_
      refine C_region ?_
      refine W_add rfl rfl rfl (i64_id (by omega) (by omega)) ?_
      refine W_move rfl rfl ?_
      refine W_nil ?_
      exact N_again (j + 1, _) ⟨by rw [take_flat_succ bss j (by omega)]; exact hO, hL, by omega, hR, by show j + 1 ≤ bss.length; omega⟩ ⟨rfl, rfl, rfl, look_int rfl (by show (j : Int) + 1 = ((j + 1 : Nat) : Int); omega), trivial⟩ (by show bss.length - (j + 1) < bss.length - j; omega)
    · have hc28 := of_decide_eq_false hc28
      refine C_exit _ rfl ?_
      refine N_code ?_
      refine C_seq ?_
      refine C_region ?_
      refine W_move rfl rfl ?_
      refine W_assign rfl rfl ?_
      refine W_nil ?_
      refine N_code ?_
      refine C_ret rfl rfl ?_
      have hjl : j = bss.length := by omega
      subst hjl
      rw [List.take_length] at hO
      exact ⟨hO, hL.below⟩

end Go.Wk.Sha
