import Derived.Test.YthhjingegjljpaaShaF
import Derived.Test.YthhjingegjljpaaArr
namespace Go.Wk.Sha
open Go.Proofs Go.RowKit
set_option linter.unusedVariables false

theorem abc : sha256 [97, 98, 99] = [186, 120, 22, 191, 143, 1, 207, 234, 65, 65, 64, 222, 93, 174, 34, 35, 176, 3, 97, 163, 150, 23, 122, 156, 180, 16, 255, 97, 242, 0, 21, 173] := by decide +kernel
theorem abc0 : (sha256 [[97], [98, 99]].flatten).getD 0 0 = 186 := by rw [show [[97], [98, 99]].flatten = ([97, 98, 99] : List UInt8) from rfl, abc]; rfl
theorem abc1 : (sha256 [[97], [98, 99]].flatten).getD 1 0 = 120 := by rw [show [[97], [98, 99]].flatten = ([97, 98, 99] : List UInt8) from rfl, abc]; rfl
theorem abc31 : (sha256 [[97], [98, 99]].flatten).getD 31 0 = 173 := by rw [show [[97], [98, 99]].flatten = ([97, 98, 99] : List UInt8) from rfl, abc]; rfl

theorem wakes_ret (w : World) : Ret Try.prog 14 #[] w fun v w' => v = .bool true ∧ Below w.heap.size w w' := by
  refine Ret_of (args := []) Try.func14 rfl rfl ?_
  change C _ _ _ _ [] _
  have hL := Led.nil w
  refine C_seq ?_
  refine C_region ?_
  refine W_assign rfl rfl ?_
  refine W_nil ?_
  refine N_code ?_
  refine C_seq ?_
  refine C_region ?_
  refine W_bslice rfl Go.Proofs.Try.underlying28 Ty.cells5 Ty.zero5 rfl rfl rfl rfl rfl ?_
  intro g1 w1 hg1 hsz1 hB1 hb1
  replace hL := hL.call hB1
  refine W_conv_mark rfl Go.Proofs.Try.underlying28 Go.Proofs.Try.underlying5 rfl hb1 ?_
  intro w2 hU2 hb2
  have hu2 := hU2.size
  replace hL := hL.updx hU2 (by omega)
  have hm2 : Sl g1 (g1 + 1) w2.heap 1 encB (.slice (some ⟨g1, 0, none⟩) 1 1) [97] := sl_of_block (enc := encB) (ds := [97]) hb2 1 (fun _ => rfl) rfl 1 (Nat.le_refl _) (by simp [maxLen]) (Nat.le_refl _) (Nat.lt_succ_self _)
  refine W_bslice rfl Go.Proofs.Try.underlying28 Ty.cells5 Ty.zero5 rfl rfl rfl rfl rfl ?_
  intro g3 w3 hg3 hsz3 hB3 hb3
  replace hL := hL.call hB3
  replace hm2 := hm2.ext hB3
  refine W_conv_mark rfl Go.Proofs.Try.underlying28 Go.Proofs.Try.underlying5 rfl hb3 ?_
  intro w4 hU4 hb4
  have hu4 := hU4.size
  replace hm2 := hm2.upd hU4 (by omega)
  replace hL := hL.updx hU4 (by omega)
  have hm4 : Sl g3 (g3 + 1) w4.heap 1 encB (.slice (some ⟨g3, 0, none⟩) 2 2) [98, 99] := sl_of_block (enc := encB) (ds := [98, 99]) hb4 1 (fun _ => rfl) rfl 2 (Nat.le_refl _) (by simp [maxLen]) (Nat.le_refl _) (Nat.lt_succ_self _)
  refine W_bslice_sl encV [_, _] rfl Go.Proofs.Try.underlying22 Ty.cells28 Ty.zero28 rfl rfl rfl (fun _ => rfl) rfl rfl (one_cons hm2.one (one_cons hm4.one one_nil)) ?_
  intro u5 w5 hsz5 hB5 hx5
  replace hL := hL.call hB5
  replace hm2 := hm2.ext hB5
  replace hm4 := hm4.ext hB5
  have hR : Rw 0 w5.heap.size w5.heap _ [_, _] [[97], [98, 99]] := rw_of2 (hx5.widen (Nat.zero_le _) (by omega)) (hm2.widen (Nat.zero_le _) (by omega)) (hm4.widen (Nat.zero_le _) (by omega))
  refine W_call rfl Ty.named10 rfl (sum_ret [[97], [98, 99]] _ _ _ _ _ hR (Nat.le_refl _) (by decide) (by decide)) ?_
  rintro v w6 ⟨rfl, hB6⟩
  replace hL := hL.call hB6
  replace hm2 := hm2.ext hB6
  replace hm4 := hm4.ext hB6
  replace hx5 := hx5.ext hB6
  have hq6 := hB6.size
  refine W_alloc rfl Ty.zero25 ?_
  intro gs w7 hgs hsz7 hB7 hb7
  replace hL := hL.cons hB7 (by omega) (by omega) hb7
  replace hm2 := hm2.ext hB7
  replace hm4 := hm4.ext hB7
  replace hx5 := hx5.ext hB7
  refine W_store_all 0 rfl rfl hL rfl (by rw [List.length_map, sha256_len]; exact Ty.size25) (by first | exact oneW _ | exact oneB _ | exact fun u hu => (oneCells_spec _ rfl u hu).2) (by rw [List.length_map, sha256_len]; rfl) ?_
  intro w8 hU8 hL
  have hu8 := hU8.size
  replace hm2 := hm2.upd hU8 (by omega)
  replace hm4 := hm4.upd hU8 (by omega)
  replace hx5 := hx5.upd hU8 (by omega)
  refine W_nil ?_
  refine N_code ?_
  refine C_seq ?_
  refine C_region ?_
  refine W_index_arr0 0 rfl Go.Proofs.Try.underlying25 Ty.cells5 Ty.info5 rfl rfl rfl (by omega) ?_
  refine W_load_cell 0 rfl Ty.cell5 rfl hL rfl (mapB_get (by rw [sha256_len]; decide)) ?_
  refine W_eql rfl rfl rfl ?_
  refine W_known (t := 10) true rfl (by rw [abc0]; rfl) ?_
  refine W_move rfl rfl ?_
  refine W_guard_yes rfl ?_
  refine W_index_arr0 1 rfl Go.Proofs.Try.underlying25 Ty.cells5 Ty.info5 rfl rfl rfl (by omega) ?_
  refine W_guard_yes rfl ?_
  refine W_load_cell 0 rfl Ty.cell5 rfl hL rfl (mapB_get (by rw [sha256_len]; decide)) ?_
  refine W_guard_yes rfl ?_
  refine W_eql rfl rfl rfl ?_
  refine W_known (t := 14) true rfl (by rw [abc1]; rfl) ?_
  refine W_pick_t rfl rfl rfl ?_
  refine W_move rfl rfl ?_
  refine W_guard_yes rfl ?_
  refine W_index_arr0 31 rfl Go.Proofs.Try.underlying25 Ty.cells5 Ty.info5 rfl rfl rfl (by omega) ?_
  refine W_guard_yes rfl ?_
  refine W_load_cell 0 rfl Ty.cell5 rfl hL rfl (mapB_get (by rw [sha256_len]; decide)) ?_
  refine W_guard_yes rfl ?_
  refine W_eql rfl rfl rfl ?_
  refine W_known (t := 19) true rfl (by rw [abc31]; rfl) ?_
  refine W_pick_t rfl rfl rfl ?_
  refine W_assign rfl rfl ?_
  refine W_nil ?_
  refine N_code ?_
  refine C_ret rfl rfl ?_
  exact ⟨rfl, hL.below⟩

end Go.Wk.Sha
