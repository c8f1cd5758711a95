import Derived.Test.YthhjingegjljpaaShaG
namespace Go.Wk.Sha
open Go.Proofs Go.RowKit
set_option linter.unusedVariables false

theorem sum_rx (bss : List (List UInt8)) (vb : Value) (w : World) (hR : ∃ us, Rw 0 w.heap.size w.heap vb us bss) (hsum : bss.flatten.length ≤ 1000000000) (hmax : bss.length ≤ 1000000000) : Ret Try.prog 10 #[vb] w fun v w' => v = .agg ((sha256 bss.flatten).map cB).toArray ∧ Below w.heap.size w w' := by
  obtain ⟨us, h⟩ := hR
  exact sum_ret bss us vb w 0 _ h (Nat.le_refl _) hsum hmax
theorem halves (l : List UInt8) (x : Nat) : l.take (x / 2) ++ (l.take x).drop (x / 2) = l.take x := by
  have := List.take_append_drop (x / 2) (l.take x)
  rw [List.take_take, Nat.min_eq_left (by omega)] at this
  exact this
def chainL (bs : List UInt8) : Nat → List UInt8
  | 0 => sha256 bs
  | n + 1 => sha256 (chainL bs n ++ bs)
theorem chainL_len (bs : List UInt8) (n : Nat) : (chainL bs n).length = 32 := by cases n <;> exact sha256_len _

theorem exact_ret (bss : List (List UInt8)) (vs : List Value) (vb : Value) (w : World) (lo hi : Nat) (hR : Rw lo hi w.heap vb vs bss) (hhi : hi ≤ w.heap.size) : Ret Try.prog 3 #[vb] w fun v w' => v = .bool true ∧ Below w.heap.size w w' := by
  refine Ret_of (args := [vb]) Try.func3 rfl rfl ?_
  change C _ _ _ _ [(0, vb)] _
  have hL := Led.nil w
  refine C_seq ?_
  refine C_region ?_
  refine W_assign rfl rfl ?_
  refine W_nil ?_
  refine N_code ?_
  refine C_seq ?_
  refine C_seq ?_
  refine C_region ?_
  refine W_move rfl rfl ?_
  refine W_call rfl Ty.named8 rfl (heavy_ret bss vs vb _ _ _ hR) ?_
  rintro v w1 ⟨b, rfl, hbb, rfl⟩
  refine W_nil ?_
  refine N_code ?_
  refine C_cond rfl (fun hc5 => ?_) (fun hc5 => ?_)
  · skip
    refine C_seq ?_
    refine C_region ?_
    refine W_assign rfl rfl ?_
    refine W_nil ?_
    refine N_code ?_
    refine C_ret rfl rfl ?_
    exact ⟨rfl, hL.below⟩
  · obtain ⟨h20, h300⟩ := hbb hc5
    have hfl := flat_le bss h300
    refine C_skip ?_
    refine N_code ?_
    refine C_seq ?_
    refine C_region ?_
    refine W_move rfl rfl ?_
    refine W_call rfl Ty.named9 rfl (twinRows_ret bss vs _ _ _ _ hR (by omega) (by omega) (fun x hx => Nat.le_trans (h300 x hx) (by decide))) ?_
    rintro zt w2 ⟨⟨us, hP⟩, hB2⟩
    replace hR := hR.call hB2
    replace hL := hL.call hB2
    have hq2 := hB2.size
    refine W_assign rfl rfl ?_
    refine W_nil ?_
    refine N_code ?_
    refine C_seq ?_
    refine C_region ?_
    refine W_move rfl rfl ?_
    refine W_call rfl Ty.named10 rfl (sum_ret bss us _ _ _ _ hP.rw (Nat.le_refl _) (by omega) (by omega)) ?_
    rintro v w3 ⟨rfl, hB3⟩
    replace hR := hR.call hB3
    replace hL := hL.call hB3
    replace hP := hP.call hB3
    have hq3 := hB3.size
    refine W_move rfl rfl ?_
    refine W_call rfl Ty.named12 rfl (flat_ret bss vs _ _ _ _ hR (by omega) (by omega) (by omega)) ?_
    rintro zf w4 ⟨hF, hB4⟩
    replace hF := hF.sl
    replace hR := hR.call hB4
    replace hL := hL.call hB4
    replace hP := hP.call hB4
    have hq4 := hB4.size
    refine W_call rfl Ty.named11 rfl (id_ret bss.flatten _ _ _ _ hF (by omega) (by omega)) ?_
    rintro v w5 ⟨rfl, hB5⟩
    replace hR := hR.call hB5
    replace hL := hL.call hB5
    replace hP := hP.call hB5
    replace hF := hF.ext hB5
    have hq5 := hB5.size
    refine W_eql_u8s rfl Go.Proofs.Try.underlying25 Go.Proofs.Try.underlying5 Ty.cells5 Ty.info5 Ty.eqg25 rfl rfl (sha256_len _) (sha256_len _) ?_
    refine W_known (t := 13) true rfl (by simp) ?_
    refine W_move rfl rfl ?_
    refine W_guard_yes rfl ?_
    refine W_move rfl rfl ?_
    refine W_guard_yes rfl ?_
    refine W_move rfl rfl ?_
    refine W_guard_yes rfl ?_
    refine W_call rfl Ty.named13 rfl (rows_ret bss bss us vs _ _ _ _ _ _ _ hP.rw hR (by omega) (fun x hx => Nat.le_trans (h300 x hx) (by decide))) ?_
    rintro v w6 ⟨rfl, hB6⟩
    replace hR := hR.call hB6
    replace hL := hL.call hB6
    replace hP := hP.call hB6
    replace hF := hF.ext hB6
    have hq6 := hB6.size
    refine W_known (t := 17) true rfl (by simp) ?_
    refine W_pick_t rfl rfl rfl ?_
    refine W_move rfl rfl ?_
    refine W_guard_yes rfl ?_
    refine W_call rfl Ty.named14 rfl (wakes_ret _) ?_
    rintro v w7 ⟨rfl, hB7⟩
    replace hR := hR.call hB7
    replace hL := hL.call hB7
    replace hP := hP.call hB7
    replace hF := hF.ext hB7
    have hq7 := hB7.size
    refine W_pick_t rfl rfl rfl ?_
    refine W_assign rfl rfl ?_
    refine W_nil ?_
    refine N_code ?_
    refine C_ret rfl rfl ?_
    exact ⟨rfl, hL.below⟩

theorem parts_ret (bss : List (List UInt8)) (k : Int) (vs : List Value) (vb : Value) (w : World) (lo hi : Nat) (hR : Rw lo hi w.heap vb vs bss) (hhi : hi ≤ w.heap.size) : Ret Try.prog 5 #[vb, .int .i64 k] w fun v w' => v = .bool true ∧ Below w.heap.size w w' := by
  refine Ret_of (args := [vb, .int .i64 k]) Try.func5 rfl rfl ?_
  change C _ _ _ _ [(0, vb), (1, .int .i64 k)] _
  have hL := Led.nil w
  obtain ⟨ku, hku⟩ : ∃ m : Nat, IntKind.u64.wrap k = (m : Int) := ⟨(k % 18446744073709551616).toNat, by rw [u64_wrap]; omega⟩
  obtain ⟨r, hrl, hrem⟩ : ∃ r : Nat, r ≤ bss.flatten.length ∧ (ku : Int).tmod ((bss.flatten.length : Int) + 1) = (r : Int) := ⟨ku % (bss.flatten.length + 1), by have := Nat.mod_lt ku (show 0 < bss.flatten.length + 1 by omega); omega, nat_tmod ku (bss.flatten.length + 1) _ (by omega)⟩
  refine C_seq ?_
  refine C_region ?_
  refine W_assign rfl rfl ?_
  refine W_nil ?_
  refine N_code ?_
  refine C_seq ?_
  refine C_seq ?_
  refine C_region ?_
  refine W_move rfl rfl ?_
  refine W_call rfl Ty.named8 rfl (heavy_ret bss vs vb _ _ _ hR) ?_
  rintro v w1 ⟨b, rfl, hbb, rfl⟩
  refine W_nil ?_
  refine N_code ?_
  refine C_cond rfl (fun hc8 => ?_) (fun hc8 => ?_)
  · skip
    refine C_seq ?_
    refine C_region ?_
    refine W_assign rfl rfl ?_
    refine W_nil ?_
    refine N_code ?_
    refine C_ret rfl rfl ?_
    exact ⟨rfl, hL.below⟩
  · obtain ⟨h20, h300⟩ := hbb hc8
    have hfl := flat_le bss h300
    refine C_skip ?_
    refine N_code ?_
    refine C_seq ?_
    refine C_region ?_
    refine W_move rfl rfl ?_
    refine W_call rfl Ty.named12 rfl (flat_ret bss vs _ _ _ _ hR (by omega) (by omega) (by omega)) ?_
    rintro zf w2 ⟨hF, hB2⟩
    replace hF := hF.sl
    replace hR := hR.call hB2
    replace hL := hL.call hB2
    have hq2 := hB2.size
    refine W_assign rfl rfl ?_
    refine W_nil ?_
    refine N_code ?_
    refine C_seq ?_
    refine C_region ?_
    refine W_move rfl rfl ?_
    refine W_conv rfl rfl Ty.some3 Go.Proofs.Try.underlying32 hku ?_
    refine W_move rfl rfl ?_
    refine W_len_sl rfl Go.Proofs.Try.underlying28 rfl hF ?_
    refine W_add rfl rfl rfl (i64_id (by omega) (by omega)) ?_
    refine W_conv rfl rfl Ty.some3 Go.Proofs.Try.underlying32 (IntWalk.u64_in _ (by omega)) ?_
    refine W_rem rfl rfl rfl (by omega) hrem ?_
    refine W_conv rfl rfl Ty.some32 Go.Proofs.Try.underlying3 (i64_id (by omega) (by omega)) ?_
    refine W_assign rfl rfl ?_
    refine W_nil ?_
    refine N_code ?_
    refine C_seq ?_
    apply C_draw 29 [[], [0], [], [2], [3], [1, 4], [5], [6], [6], [7, 8, 6], [6], [6], [10, 11, 6], [9, 12, 6], [13, 6], [6], [15, 6], [16, 6], [14, 17, 6], [6, 18], [19], [20], [20], [22, 20], [21, 23, 20], [20, 24], [25], [26], [26, 27]] [.val _, .val _, .val _, .pred (fun v w => ∃ us, Rw 0 w.heap.size w.heap v us [bss.flatten]) stable_rwx, .val _, .val _, .val _, .val _, .val _, .pred (fun v w => Sl 0 w.heap.size w.heap 1 encB v (bss.flatten.take r)) stable_sl, .val _, .val _, .pred (fun v w => Sl 0 w.heap.size w.heap 1 encB v ((bss.flatten.take bss.flatten.length).drop r)) stable_sl, .pred (fun v w => ∃ us, Rw 0 w.heap.size w.heap v us [bss.flatten.take r, (bss.flatten.take bss.flatten.length).drop r]) stable_rwx, .val _, .val _, .pred (fun v w => ∃ us, Rw 0 w.heap.size w.heap v us [bss.flatten]) stable_rwx, .val _, .val _, .val _, .val _, .val _, .pred (fun v w => ∃ us, Rw 0 w.heap.size w.heap v us [[], []]) stable_rwx, .val _, .val _, .val _, .val _, .val _, .val _] Ty.mixed rfl rfl (by kernel_rfl) (by kernel_rfl) rfl
    · refine ⟨?_, ?_, ?_, ?_, ?_, ?_, ?_, ?_, ?_, ?_, ?_, ?_, ?_, ?_, ?_, ?_, ?_, ?_, ?_, ?_, ?_, ?_, ?_, ?_, ?_, ?_, ?_, ?_, ?_,  trivial⟩
      · intro w3 vq hB3 hH
        have hR := hR.call hB3
        have hL := hL.call hB3
        have hF := hF.ext hB3
        refine W_move rfl rfl ?_
        refine W_nil ?_
        exact N_step rfl rfl (by first | exact Below.refl _ _ | assumption)
      · intro w4 vq hB4 hH
        have hq4 := hB4.size
        have hR := hR.call hB4
        have hL := hL.call hB4
        have hF := hF.ext hB4
        refine W_call rfl Ty.named10 rfl (sum_ret bss vs _ _ _ _ hR (by omega) (by omega) (by omega)) ?_
        rintro v w5 ⟨rfl, hB5⟩
        replace hR := hR.call hB5
        replace hL := hL.call hB5
        replace hF := hF.ext hB5
        have hq5 := hB5.size
        refine W_nil ?_
        exact N_step rfl rfl (by first | exact Below.refl _ _ | assumption)
      · intro w6 vq hB6 hH
        have hR := hR.call hB6
        have hL := hL.call hB6
        have hF := hF.ext hB6
        refine W_move rfl rfl ?_
        refine W_nil ?_
        exact N_step rfl rfl (by first | exact Below.refl _ _ | assumption)
      · intro w7 vq hB7 hH
        have hq7 := hB7.size
        have hR := hR.call hB7
        have hL := hL.call hB7
        have hF := hF.ext hB7
        refine W_bslice_sl encV [_] rfl Go.Proofs.Try.underlying22 Ty.cells28 Ty.zero28 rfl rfl rfl (fun _ => rfl) rfl rfl (one_cons hF.one one_nil) ?_
        intro u8 w8 hsz8 hB8 hx8
        replace hR := hR.call hB8
        replace hL := hL.call hB8
        replace hF := hF.ext hB8
        refine W_nil ?_
        exact N_step rfl ⟨_, rw_of1 (hx8.widen (Nat.zero_le _) (Nat.le_refl _)) (hF.widen (Nat.zero_le _) (by omega))⟩ (by assumption)
      · intro w9 vq hB9 hH
        have hq9 := hB9.size
        obtain ⟨hR3, _⟩ := hH
        have hR := hR.call hB9
        have hL := hL.call hB9
        have hF := hF.ext hB9
        refine W_call rfl Ty.named10 rfl (sum_rx [bss.flatten] _ _ hR3 (by simp only [List.flatten_cons, List.flatten_nil, List.append_nil, List.length_append, List.length_take, List.length_drop, chainL_len]; omega) (by simp)) ?_
        rintro v w10 ⟨rfl, hB10⟩
        replace hR := hR.call hB10
        replace hL := hL.call hB10
        replace hF := hF.ext hB10
        have hq10 := hB10.size
        refine W_nil ?_
        exact N_step rfl rfl (by first | exact Below.refl _ _ | assumption)
      · intro w11 vq hB11 hH
        have hR := hR.call hB11
        have hL := hL.call hB11
        have hF := hF.ext hB11
        refine W_eql_u8s rfl Go.Proofs.Try.underlying25 Go.Proofs.Try.underlying5 Ty.cells5 Ty.info5 Ty.eqg25 rfl rfl (sha256_len _) (sha256_len _) ?_
        refine W_known (t := 24) true rfl (by simp) ?_
        refine W_nil ?_
        exact N_step rfl rfl (by first | exact Below.refl _ _ | assumption)
      · intro w12 vq hB12 hH
        have hR := hR.call hB12
        have hL := hL.call hB12
        have hF := hF.ext hB12
        refine W_move rfl rfl ?_
        refine W_nil ?_
        exact N_step rfl rfl (by first | exact Below.refl _ _ | assumption)
      · intro w13 vq hB13 hH
        have hR := hR.call hB13
        have hL := hL.call hB13
        have hF := hF.ext hB13
        refine W_guard_yes rfl ?_
        refine W_move rfl rfl ?_
        refine W_nil ?_
        exact N_step rfl rfl (by first | exact Below.refl _ _ | assumption)
      · intro w14 vq hB14 hH
        have hR := hR.call hB14
        have hL := hL.call hB14
        have hF := hF.ext hB14
        refine W_guard_yes rfl ?_
        refine W_move rfl rfl ?_
        refine W_nil ?_
        exact N_step rfl rfl (by first | exact Below.refl _ _ | assumption)
      · intro w15 vq hB15 hH
        have hq15 := hB15.size
        have hR := hR.call hB15
        have hL := hL.call hB15
        have hF := hF.ext hB15
        refine W_guard_yes rfl ?_
        refine W_slice 0 _ rfl Go.Proofs.Try.underlying28 Ty.cells5 Ty.info5 rfl (by rfl) ⟨_, rfl⟩ hF (by omega) (by omega) ?_
        intro v16 hp16
        refine W_nil ?_
        exact N_step rfl (hp16.widen (Nat.zero_le _) (by omega)) (Below.refl _ _)
      · intro w17 vq hB17 hH
        have hR := hR.call hB17
        have hL := hL.call hB17
        have hF := hF.ext hB17
        refine W_guard_yes rfl ?_
        refine W_move rfl rfl ?_
        refine W_nil ?_
        exact N_step rfl rfl (by first | exact Below.refl _ _ | assumption)
      · intro w18 vq hB18 hH
        have hR := hR.call hB18
        have hL := hL.call hB18
        have hF := hF.ext hB18
        refine W_guard_yes rfl ?_
        refine W_move rfl rfl ?_
        refine W_nil ?_
        exact N_step rfl rfl (by first | exact Below.refl _ _ | assumption)
      · intro w19 vq hB19 hH
        have hq19 := hB19.size
        have hR := hR.call hB19
        have hL := hL.call hB19
        have hF := hF.ext hB19
        refine W_guard_yes rfl ?_
        refine W_slice _ _ rfl Go.Proofs.Try.underlying28 Ty.cells5 Ty.info5 rfl ⟨_, rfl⟩ (by rfl) hF (by omega) (by omega) ?_
        intro v20 hp20
        refine W_nil ?_
        exact N_step rfl (hp20.widen (Nat.zero_le _) (by omega)) (Below.refl _ _)
      · intro w21 vq hB21 hH
        have hq21 := hB21.size
        obtain ⟨hS9, hS12, _, _⟩ := hH
        have hR := hR.call hB21
        have hL := hL.call hB21
        have hF := hF.ext hB21
        refine W_guard_yes rfl ?_
        refine W_bslice_sl encV [_, _] rfl Go.Proofs.Try.underlying22 Ty.cells28 Ty.zero28 rfl rfl rfl (fun _ => rfl) rfl rfl (one_cons hS9.one (one_cons hS12.one one_nil)) ?_
        intro u22 w22 hsz22 hB22 hx22
        replace hR := hR.call hB22
        replace hL := hL.call hB22
        replace hF := hF.ext hB22
        replace hS9 := hS9.ext hB22
        replace hS12 := hS12.ext hB22
        refine W_nil ?_
        exact N_step rfl ⟨_, rw_of2 (hx22.widen (Nat.zero_le _) (Nat.le_refl _)) (hS9.widen (Nat.zero_le _) (by omega)) (hS12.widen (Nat.zero_le _) (by omega))⟩ (by assumption)
      · intro w23 vq hB23 hH
        have hq23 := hB23.size
        obtain ⟨hR13, _, _⟩ := hH
        have hR := hR.call hB23
        have hL := hL.call hB23
        have hF := hF.ext hB23
        refine W_guard_yes rfl ?_
        refine W_call rfl Ty.named10 rfl (sum_rx [bss.flatten.take r, (bss.flatten.take bss.flatten.length).drop r] _ _ hR13 (by simp only [List.flatten_cons, List.flatten_nil, List.append_nil, List.length_append, List.length_take, List.length_drop, chainL_len]; omega) (by simp)) ?_
        rintro v w24 ⟨rfl, hB24⟩
        replace hR := hR.call hB24
        replace hL := hL.call hB24
        replace hF := hF.ext hB24
        have hq24 := hB24.size
        refine W_nil ?_
        exact N_step rfl rfl (by first | exact Below.refl _ _ | assumption)
      · intro w25 vq hB25 hH
        have hR := hR.call hB25
        have hL := hL.call hB25
        have hF := hF.ext hB25
        refine W_guard_yes rfl ?_
        refine W_move rfl rfl ?_
        refine W_nil ?_
        exact N_step rfl rfl (by first | exact Below.refl _ _ | assumption)
      · intro w26 vq hB26 hH
        have hq26 := hB26.size
        have hR := hR.call hB26
        have hL := hL.call hB26
        have hF := hF.ext hB26
        refine W_guard_yes rfl ?_
        refine W_bslice_sl encV [_] rfl Go.Proofs.Try.underlying22 Ty.cells28 Ty.zero28 rfl rfl rfl (fun _ => rfl) rfl rfl (one_cons hF.one one_nil) ?_
        intro u27 w27 hsz27 hB27 hx27
        replace hR := hR.call hB27
        replace hL := hL.call hB27
        replace hF := hF.ext hB27
        refine W_nil ?_
        exact N_step rfl ⟨_, rw_of1 (hx27.widen (Nat.zero_le _) (Nat.le_refl _)) (hF.widen (Nat.zero_le _) (by omega))⟩ (by assumption)
      · intro w28 vq hB28 hH
        have hq28 := hB28.size
        obtain ⟨hR16, _, _⟩ := hH
        have hR := hR.call hB28
        have hL := hL.call hB28
        have hF := hF.ext hB28
        refine W_guard_yes rfl ?_
        refine W_call rfl Ty.named10 rfl (sum_rx [bss.flatten] _ _ hR16 (by simp only [List.flatten_cons, List.flatten_nil, List.append_nil, List.length_append, List.length_take, List.length_drop, chainL_len]; omega) (by simp)) ?_
        rintro v w29 ⟨rfl, hB29⟩
        replace hR := hR.call hB29
        replace hL := hL.call hB29
        replace hF := hF.ext hB29
        have hq29 := hB29.size
        refine W_nil ?_
        exact N_step rfl rfl (by first | exact Below.refl _ _ | assumption)
      · intro w30 vq hB30 hH
        have hR := hR.call hB30
        have hL := hL.call hB30
        have hF := hF.ext hB30
        refine W_guard_yes rfl ?_
        refine W_eql_u8s rfl Go.Proofs.Try.underlying25 Go.Proofs.Try.underlying5 Ty.cells5 Ty.info5 Ty.eqg25 rfl rfl (sha256_len _) (sha256_len _) ?_
        refine W_known (t := 37) true rfl (by simp only [List.flatten_cons, List.flatten_nil, List.append_nil, List.take_length, List.take_append_drop, decide_true]) ?_
        refine W_nil ?_
        exact N_step rfl rfl (by first | exact Below.refl _ _ | assumption)
      · intro w31 vq hB31 hH
        have hq31 := hB31.size
        have hR := hR.call hB31
        have hL := hL.call hB31
        have hF := hF.ext hB31
        refine W_pick_t rfl rfl rfl ?_
        refine W_nil ?_
        exact N_step rfl rfl (by first | exact Below.refl _ _ | assumption)
      · intro w32 vq hB32 hH
        have hR := hR.call hB32
        have hL := hL.call hB32
        have hF := hF.ext hB32
        refine W_move rfl rfl ?_
        refine W_nil ?_
        exact N_step rfl rfl (by first | exact Below.refl _ _ | assumption)
      · intro w33 vq hB33 hH
        have hq33 := hB33.size
        have hR := hR.call hB33
        have hL := hL.call hB33
        have hF := hF.ext hB33
        refine W_guard_yes rfl ?_
        refine W_call rfl Ty.named10 rfl (sum_ret [] [] _ _ 0 0 (rw_nil 0 0 _) (Nat.zero_le _) (by simp) (by simp)) ?_
        rintro v w34 ⟨rfl, hB34⟩
        replace hR := hR.call hB34
        replace hL := hL.call hB34
        replace hF := hF.ext hB34
        have hq34 := hB34.size
        refine W_nil ?_
        exact N_step rfl rfl (by first | exact Below.refl _ _ | assumption)
      · intro w35 vq hB35 hH
        have hq35 := hB35.size
        have hR := hR.call hB35
        have hL := hL.call hB35
        have hF := hF.ext hB35
        refine W_guard_yes rfl ?_
        refine W_bslice_sl encV [_, _] rfl Go.Proofs.Try.underlying22 Ty.cells28 Ty.zero28 rfl rfl rfl (fun _ => rfl) rfl rfl (one_cons rfl (one_cons rfl one_nil)) ?_
        intro u36 w36 hsz36 hB36 hx36
        replace hR := hR.call hB36
        replace hL := hL.call hB36
        replace hF := hF.ext hB36
        refine W_nil ?_
        exact N_step rfl ⟨_, rw_of2 (hx36.widen (Nat.zero_le _) (Nat.le_refl _)) (sl_nil _ _ _ _ _ (fun _ => rfl)) (sl_nil _ _ _ _ _ (fun _ => rfl))⟩ (by assumption)
      · intro w37 vq hB37 hH
        have hq37 := hB37.size
        obtain ⟨hR22, _, _⟩ := hH
        have hR := hR.call hB37
        have hL := hL.call hB37
        have hF := hF.ext hB37
        refine W_guard_yes rfl ?_
        refine W_call rfl Ty.named10 rfl (sum_rx [[], []] _ _ hR22 (by simp) (by simp)) ?_
        rintro v w38 ⟨rfl, hB38⟩
        replace hR := hR.call hB38
        replace hL := hL.call hB38
        replace hF := hF.ext hB38
        have hq38 := hB38.size
        refine W_nil ?_
        exact N_step rfl rfl (by first | exact Below.refl _ _ | assumption)
      · intro w39 vq hB39 hH
        have hR := hR.call hB39
        have hL := hL.call hB39
        have hF := hF.ext hB39
        refine W_guard_yes rfl ?_
        refine W_eql_u8s rfl Go.Proofs.Try.underlying25 Go.Proofs.Try.underlying5 Ty.cells5 Ty.info5 Ty.eqg25 rfl rfl (sha256_len _) (sha256_len _) ?_
        refine W_known (t := 43) true rfl (by simp) ?_
        refine W_nil ?_
        exact N_step rfl rfl (by first | exact Below.refl _ _ | assumption)
      · intro w40 vq hB40 hH
        have hq40 := hB40.size
        have hR := hR.call hB40
        have hL := hL.call hB40
        have hF := hF.ext hB40
        refine W_pick_t rfl rfl rfl ?_
        refine W_nil ?_
        exact N_step rfl rfl (by first | exact Below.refl _ _ | assumption)
      · intro w41 vq hB41 hH
        have hR := hR.call hB41
        have hL := hL.call hB41
        have hF := hF.ext hB41
        refine W_move rfl rfl ?_
        refine W_nil ?_
        exact N_step rfl rfl (by first | exact Below.refl _ _ | assumption)
      · intro w42 vq hB42 hH
        have hq42 := hB42.size
        have hR := hR.call hB42
        have hL := hL.call hB42
        have hF := hF.ext hB42
        refine W_guard_yes rfl ?_
        refine W_call rfl Ty.named14 rfl (wakes_ret _) ?_
        rintro v w43 ⟨rfl, hB43⟩
        replace hR := hR.call hB43
        replace hL := hL.call hB43
        replace hF := hF.ext hB43
        have hq43 := hB43.size
        refine W_nil ?_
        exact N_step rfl rfl (by first | exact Below.refl _ _ | assumption)
      · intro w44 vq hB44 hH
        have hq44 := hB44.size
        have hR := hR.call hB44
        have hL := hL.call hB44
        have hF := hF.ext hB44
        refine W_pick_t rfl rfl rfl ?_
        refine W_nil ?_
        exact N_step rfl rfl (by first | exact Below.refl _ _ | assumption)
    intro w45 vq hB45 hH
    have hq45 := hB45.size
    obtain ⟨_, _, _, hR3, _, _, _, _, _, hS9, _, _, hS12, hR13, _, _, hR16, _, _, _, _, _, hR22, _, _, _, _, _, _, _⟩ := hH
    replace hR := hR.call hB45
    replace hL := hL.call hB45
    replace hF := hF.ext hB45
    refine W_assign rfl rfl ?_
    refine W_nil ?_
    refine N_code ?_
    refine C_ret rfl rfl ?_
    exact ⟨rfl, hL.below⟩

theorem alone_ret (cs bs : List UInt8) (va vb : Value) (w : World) (lo hi lo2 hi2 : Nat) (ha : Sl lo hi w.heap 1 encB va cs) (hhi : hi ≤ w.heap.size) (hb : Sl lo2 hi2 w.heap 1 encB vb bs) (hhi2 : hi2 ≤ w.heap.size) : Ret Try.prog 6 #[va, vb] w fun v w' => v = .bool true ∧ Below w.heap.size w w' := by
  refine Ret_of (args := [va, vb]) Try.func6 rfl rfl ?_
  change C _ _ _ _ [(0, va), (1, vb)] _
  have hL := Led.nil w
  refine C_seq ?_
  refine C_region ?_
  refine W_assign rfl rfl ?_
  refine W_nil ?_
  refine N_code ?_
  refine C_seq ?_
  refine C_seq ?_
  refine C_region ?_
  refine W_move rfl rfl ?_
  refine W_len_sl rfl Go.Proofs.Try.underlying28 rfl ha ?_
  refine W_gtr rfl rfl rfl ?_
  refine W_move rfl rfl ?_
  refine W_bool (t := 11) rfl (fun hg11 => ?_) (fun hg11 => ?_)
  · have hg11 := of_decide_eq_true hg11
    refine W_guard_no rfl rfl rfl rfl rfl ?_
    refine W_guard_no rfl rfl rfl rfl rfl ?_
    refine W_guard_no rfl rfl rfl rfl rfl ?_
    refine W_pick_t rfl rfl rfl ?_
    refine W_nil ?_
    refine N_code ?_
    refine C_cond_t rfl ?_
    refine C_seq ?_
    refine C_region ?_
    refine W_assign rfl rfl ?_
    refine W_nil ?_
    refine N_code ?_
    refine C_ret rfl rfl ?_
    exact ⟨rfl, hL.below⟩
  · have hg11 := of_decide_eq_false hg11
    refine W_guard_yes rfl ?_
    refine W_move rfl rfl ?_
    refine W_guard_yes rfl ?_
    refine W_len_sl rfl Go.Proofs.Try.underlying28 rfl hb ?_
    refine W_guard_yes rfl ?_
    refine W_gtr rfl rfl rfl ?_
    refine W_pick_f rfl rfl rfl ?_
    refine W_nil ?_
    refine N_code ?_
    refine C_cond rfl (fun hc15 => ?_) (fun hc15 => ?_)
    · have hc15 := of_decide_eq_true hc15
      refine C_seq ?_
      refine C_region ?_
      refine W_assign rfl rfl ?_
      refine W_nil ?_
      refine N_code ?_
      refine C_ret rfl rfl ?_
      exact ⟨rfl, hL.below⟩
    · have hc15 := of_decide_eq_false hc15
      refine C_skip ?_
      refine N_code ?_
      refine C_seq ?_
      refine C_region ?_
      refine W_move rfl rfl ?_
      refine W_bslice_sl encV [_] rfl Go.Proofs.Try.underlying22 Ty.cells28 Ty.zero28 rfl rfl rfl (fun _ => rfl) rfl rfl (one_cons ha.one one_nil) ?_
      intro u1 w1 hsz1 hB1 hx1
      replace ha := ha.ext hB1
      replace hb := hb.ext hB1
      replace hL := hL.call hB1
      have hR3 : Rw 0 w1.heap.size w1.heap _ [_] [cs] := rw_of1 (hx1.widen (Nat.zero_le _) (by omega)) (ha.widen (Nat.zero_le _) (by omega))
      refine W_call rfl Ty.named10 rfl (sum_ret [cs] _ _ _ _ _ hR3 (Nat.le_refl _) (by simp; omega) (by simp)) ?_
      rintro v w2 ⟨rfl, hB2⟩
      replace ha := ha.ext hB2
      replace hb := hb.ext hB2
      replace hL := hL.call hB2
      replace hx1 := hx1.ext hB2
      have hq2 := hB2.size
      refine W_alloc rfl Ty.zero25 ?_
      intro g5 w3 hg5 hsz3 hB3 hb3
      replace ha := ha.ext hB3
      replace hb := hb.ext hB3
      replace hL := hL.cons hB3 (by omega) (by omega) hb3
      replace hx1 := hx1.ext hB3
      refine W_store_all 0 rfl rfl hL rfl (by rw [List.length_map, sha256_len]; exact Ty.size25) (by first | exact oneW _ | exact oneB _ | exact fun u hu => (oneCells_spec _ rfl u hu).2) (by rw [List.length_map, sha256_len]; rfl) ?_
      intro w4 hU4 hL
      have hu4 := hU4.size
      replace ha := ha.upd hU4 (by omega)
      replace hb := hb.upd hU4 (by omega)
      replace hx1 := hx1.upd hU4 (by omega)
      refine W_nil ?_
      refine N_code ?_
      refine C_seq ?_
      refine C_region ?_
      refine W_move rfl rfl ?_
      refine W_bslice_sl encV [_] rfl Go.Proofs.Try.underlying22 Ty.cells28 Ty.zero28 rfl rfl rfl (fun _ => rfl) rfl rfl (one_cons hb.one one_nil) ?_
      intro u5 w5 hsz5 hB5 hx5
      replace ha := ha.ext hB5
      replace hb := hb.ext hB5
      replace hL := hL.call hB5
      replace hx1 := hx1.ext hB5
      have hR4 : Rw 0 w5.heap.size w5.heap _ [_] [bs] := rw_of1 (hx5.widen (Nat.zero_le _) (by omega)) (hb.widen (Nat.zero_le _) (by omega))
      refine W_call rfl Ty.named10 rfl (sum_ret [bs] _ _ _ _ _ hR4 (Nat.le_refl _) (by simp; omega) (by simp)) ?_
      rintro v w6 ⟨rfl, hB6⟩
      replace ha := ha.ext hB6
      replace hb := hb.ext hB6
      replace hL := hL.call hB6
      replace hx1 := hx1.ext hB6
      replace hx5 := hx5.ext hB6
      have hq6 := hB6.size
      refine W_alloc rfl Ty.zero25 ?_
      intro g6 w7 hg6 hsz7 hB7 hb7
      replace ha := ha.ext hB7
      replace hb := hb.ext hB7
      replace hL := hL.cons hB7 (by omega) (by omega) hb7
      replace hx1 := hx1.ext hB7
      replace hx5 := hx5.ext hB7
      refine W_store_all 0 rfl rfl hL rfl (by rw [List.length_map, sha256_len]; exact Ty.size25) (by first | exact oneW _ | exact oneB _ | exact fun u hu => (oneCells_spec _ rfl u hu).2) (by rw [List.length_map, sha256_len]; rfl) ?_
      intro w8 hU8 hL
      have hu8 := hU8.size
      replace ha := ha.upd hU8 (by omega)
      replace hb := hb.upd hU8 (by omega)
      replace hx1 := hx1.upd hU8 (by omega)
      replace hx5 := hx5.upd hU8 (by omega)
      refine W_nil ?_
      refine N_code ?_
      refine C_seq ?_
      refine C_region ?_
      refine W_load_all 1 rfl Go.Proofs.Try.underlying25 rfl rfl hL rfl (by rw [List.length_map, sha256_len]; exact Ty.size25) ?_
      refine W_alloc rfl Ty.zero25 ?_
      intro g7 w9 hg7 hsz9 hB9 hb9
      replace ha := ha.ext hB9
      replace hb := hb.ext hB9
      replace hL := hL.cons hB9 (by omega) (by omega) hb9
      replace hx1 := hx1.ext hB9
      replace hx5 := hx5.ext hB9
      refine W_store_all 0 rfl rfl hL rfl (by rw [List.length_map, sha256_len]; exact Ty.size25) (by first | exact oneW _ | exact oneB _ | exact fun u hu => (oneCells_spec _ rfl u hu).2) (by rw [List.length_map, sha256_len]; rfl) ?_
      intro w10 hU10 hL
      have hu10 := hU10.size
      replace ha := ha.upd hU10 (by omega)
      replace hb := hb.upd hU10 (by omega)
      replace hx1 := hx1.upd hU10 (by omega)
      replace hx5 := hx5.upd hU10 (by omega)
      refine W_nil ?_
      refine N_code ?_
      refine C_seq ?_
      refine C_region ?_
      refine W_index_arr0 0 rfl Go.Proofs.Try.underlying25 Ty.cells5 Ty.info5 rfl rfl rfl (by omega) ?_
      refine W_load_cell 0 rfl Ty.cell5 rfl hL rfl (mapB_get (by rw [sha256_len]; decide)) ?_
      refine W_bits (by simp) rfl rfl (show ev _ _ = some (.int .u8 (((255 : UInt8)).toNat : Int)) from rfl) (u8_xor _ _) ?_
      refine W_index_arr0 0 rfl Go.Proofs.Try.underlying25 Ty.cells5 Ty.info5 rfl rfl rfl (by omega) ?_
      refine W_store_cell 0 rfl rfl hL rfl Ty.cells5 Ty.info5 rfl rfl (by rw [List.length_map, sha256_len]; omega) ?_
      intro w11 hU11 hL
      have hu11 := hU11.size
      replace ha := ha.upd hU11 (by omega)
      replace hb := hb.upd hU11 (by omega)
      replace hx1 := hx1.upd hU11 (by omega)
      replace hx5 := hx5.upd hU11 (by omega)
      refine W_nil ?_
      refine N_code ?_
      refine C_seq ?_
      by_cases hsh : sha256 cs = sha256 bs
      · skip
        apply C_draw 32 [[], [0], [1], [], [2, 3], [4], [5], [6, 5], [7, 5], [5], [8, 9, 5], [5, 10], [11], [12], [12], [14, 12], [13, 15, 12], [12, 16], [17], [18], [18], [19, 20, 18], [21, 18], [22], [22], [23, 24, 22], [25, 22], [22, 26, 18], [18, 27], [28], [29], [29, 30]] [.val _, .pred (fun v w => ∃ us, Rw 0 w.heap.size w.heap v us [cs]) stable_rwx, .val _, .val _, .val _, .val _, .val _, .pred (fun v w => ∃ us, Rw 0 w.heap.size w.heap v us [bs]) stable_rwx, .val _, .val _, .val _, .val _, .val _, .val _, .val _, .val _, .val _, .val _, .val _, .val _, .val _, .val _, .val _, .val _, .val _, .val _, .val _, .val _, .val _, .val _, .val _, .val _] Ty.mixed rfl rfl (by kernel_rfl) (by kernel_rfl) rfl
        · refine ⟨?_, ?_, ?_, ?_, ?_, ?_, ?_, ?_, ?_, ?_, ?_, ?_, ?_, ?_, ?_, ?_, ?_, ?_, ?_, ?_, ?_, ?_, ?_, ?_, ?_, ?_, ?_, ?_, ?_, ?_, ?_, ?_,  trivial⟩
          · intro w12 vq hB12 hH
            have ha := ha.ext hB12
            have hb := hb.ext hB12
            have hL := hL.call hB12
            have hx1 := hx1.ext hB12
            have hx5 := hx5.ext hB12
            refine W_move rfl rfl ?_
            refine W_nil ?_
            exact N_step rfl rfl (by first | exact Below.refl _ _ | assumption)
          · intro w13 vq hB13 hH
            have hq13 := hB13.size
            have ha := ha.ext hB13
            have hb := hb.ext hB13
            have hL := hL.call hB13
            have hx1 := hx1.ext hB13
            have hx5 := hx5.ext hB13
            refine W_bslice_sl encV [_] rfl Go.Proofs.Try.underlying22 Ty.cells28 Ty.zero28 rfl rfl rfl (fun _ => rfl) rfl rfl (one_cons ha.one one_nil) ?_
            intro u14 w14 hsz14 hB14 hx14
            replace ha := ha.ext hB14
            replace hb := hb.ext hB14
            replace hL := hL.call hB14
            replace hx1 := hx1.ext hB14
            replace hx5 := hx5.ext hB14
            refine W_nil ?_
            exact N_step rfl ⟨_, rw_of1 (hx14.widen (Nat.zero_le _) (Nat.le_refl _)) (ha.widen (Nat.zero_le _) (by omega))⟩ (by assumption)
          · intro w15 vq hB15 hH
            have hq15 := hB15.size
            obtain ⟨hR1, _⟩ := hH
            have ha := ha.ext hB15
            have hb := hb.ext hB15
            have hL := hL.call hB15
            have hx1 := hx1.ext hB15
            have hx5 := hx5.ext hB15
            refine W_call rfl Ty.named10 rfl (sum_rx [cs] _ _ hR1 (by simp only [List.flatten_cons, List.flatten_nil, List.append_nil, List.length_append, List.length_take, List.length_drop, chainL_len]; omega) (by simp)) ?_
            rintro v w16 ⟨rfl, hB16⟩
            replace ha := ha.ext hB16
            replace hb := hb.ext hB16
            replace hL := hL.call hB16
            replace hx1 := hx1.ext hB16
            replace hx5 := hx5.ext hB16
            have hq16 := hB16.size
            refine W_nil ?_
            exact N_step rfl rfl (by first | exact Below.refl _ _ | assumption)
          · intro w17 vq hB17 hH
            have ha := ha.ext hB17
            have hb := hb.ext hB17
            have hL := hL.call hB17
            have hx1 := hx1.ext hB17
            have hx5 := hx5.ext hB17
            refine W_load_all 2 rfl Go.Proofs.Try.underlying25 rfl rfl hL rfl (by rw [List.length_map, sha256_len]; exact Ty.size25) ?_
            refine W_nil ?_
            exact N_step rfl rfl (by first | exact Below.refl _ _ | assumption)
          · intro w18 vq hB18 hH
            have ha := ha.ext hB18
            have hb := hb.ext hB18
            have hL := hL.call hB18
            have hx1 := hx1.ext hB18
            have hx5 := hx5.ext hB18
            refine W_eql_u8s rfl Go.Proofs.Try.underlying25 Go.Proofs.Try.underlying5 Ty.cells5 Ty.info5 Ty.eqg25 rfl rfl (sha256_len _) (sha256_len _) ?_
            refine W_known (t := 31) true rfl (by simp) ?_
            refine W_nil ?_
            exact N_step rfl rfl (by first | exact Below.refl _ _ | assumption)
          · intro w19 vq hB19 hH
            have ha := ha.ext hB19
            have hb := hb.ext hB19
            have hL := hL.call hB19
            have hx1 := hx1.ext hB19
            have hx5 := hx5.ext hB19
            refine W_move rfl rfl ?_
            refine W_nil ?_
            exact N_step rfl rfl (by first | exact Below.refl _ _ | assumption)
          · intro w20 vq hB20 hH
            have ha := ha.ext hB20
            have hb := hb.ext hB20
            have hL := hL.call hB20
            have hx1 := hx1.ext hB20
            have hx5 := hx5.ext hB20
            refine W_guard_yes rfl ?_
            refine W_move rfl rfl ?_
            refine W_nil ?_
            exact N_step rfl rfl (by first | exact Below.refl _ _ | assumption)
          · intro w21 vq hB21 hH
            have hq21 := hB21.size
            have ha := ha.ext hB21
            have hb := hb.ext hB21
            have hL := hL.call hB21
            have hx1 := hx1.ext hB21
            have hx5 := hx5.ext hB21
            refine W_guard_yes rfl ?_
            refine W_bslice_sl encV [_] rfl Go.Proofs.Try.underlying22 Ty.cells28 Ty.zero28 rfl rfl rfl (fun _ => rfl) rfl rfl (one_cons hb.one one_nil) ?_
            intro u22 w22 hsz22 hB22 hx22
            replace ha := ha.ext hB22
            replace hb := hb.ext hB22
            replace hL := hL.call hB22
            replace hx1 := hx1.ext hB22
            replace hx5 := hx5.ext hB22
            refine W_nil ?_
            exact N_step rfl ⟨_, rw_of1 (hx22.widen (Nat.zero_le _) (Nat.le_refl _)) (hb.widen (Nat.zero_le _) (by omega))⟩ (by assumption)
          · intro w23 vq hB23 hH
            have hq23 := hB23.size
            obtain ⟨hR7, _, _⟩ := hH
            have ha := ha.ext hB23
            have hb := hb.ext hB23
            have hL := hL.call hB23
            have hx1 := hx1.ext hB23
            have hx5 := hx5.ext hB23
            refine W_guard_yes rfl ?_
            refine W_call rfl Ty.named10 rfl (sum_rx [bs] _ _ hR7 (by simp only [List.flatten_cons, List.flatten_nil, List.append_nil, List.length_append, List.length_take, List.length_drop, chainL_len]; omega) (by simp)) ?_
            rintro v w24 ⟨rfl, hB24⟩
            replace ha := ha.ext hB24
            replace hb := hb.ext hB24
            replace hL := hL.call hB24
            replace hx1 := hx1.ext hB24
            replace hx5 := hx5.ext hB24
            have hq24 := hB24.size
            refine W_nil ?_
            exact N_step rfl rfl (by first | exact Below.refl _ _ | assumption)
          · intro w25 vq hB25 hH
            have ha := ha.ext hB25
            have hb := hb.ext hB25
            have hL := hL.call hB25
            have hx1 := hx1.ext hB25
            have hx5 := hx5.ext hB25
            refine W_guard_yes rfl ?_
            refine W_load_all 1 rfl Go.Proofs.Try.underlying25 rfl rfl hL rfl (by rw [List.length_map, sha256_len]; exact Ty.size25) ?_
            refine W_nil ?_
            exact N_step rfl rfl (by first | exact Below.refl _ _ | assumption)
          · intro w26 vq hB26 hH
            have ha := ha.ext hB26
            have hb := hb.ext hB26
            have hL := hL.call hB26
            have hx1 := hx1.ext hB26
            have hx5 := hx5.ext hB26
            refine W_guard_yes rfl ?_
            refine W_eql_u8s rfl Go.Proofs.Try.underlying25 Go.Proofs.Try.underlying5 Ty.cells5 Ty.info5 Ty.eqg25 rfl rfl (sha256_len _) (sha256_len _) ?_
            refine W_known (t := 37) true rfl (by simp) ?_
            refine W_nil ?_
            exact N_step rfl rfl (by first | exact Below.refl _ _ | assumption)
          · intro w27 vq hB27 hH
            have hq27 := hB27.size
            have ha := ha.ext hB27
            have hb := hb.ext hB27
            have hL := hL.call hB27
            have hx1 := hx1.ext hB27
            have hx5 := hx5.ext hB27
            refine W_pick_t rfl rfl rfl ?_
            refine W_nil ?_
            exact N_step rfl rfl (by first | exact Below.refl _ _ | assumption)
          · intro w28 vq hB28 hH
            have ha := ha.ext hB28
            have hb := hb.ext hB28
            have hL := hL.call hB28
            have hx1 := hx1.ext hB28
            have hx5 := hx5.ext hB28
            refine W_move rfl rfl ?_
            refine W_nil ?_
            exact N_step rfl rfl (by first | exact Below.refl _ _ | assumption)
          · intro w29 vq hB29 hH
            have ha := ha.ext hB29
            have hb := hb.ext hB29
            have hL := hL.call hB29
            have hx1 := hx1.ext hB29
            have hx5 := hx5.ext hB29
            refine W_guard_yes rfl ?_
            refine W_load_all 2 rfl Go.Proofs.Try.underlying25 rfl rfl hL rfl (by rw [List.length_map, sha256_len]; exact Ty.size25) ?_
            refine W_nil ?_
            exact N_step rfl rfl (by first | exact Below.refl _ _ | assumption)
          · intro w30 vq hB30 hH
            have ha := ha.ext hB30
            have hb := hb.ext hB30
            have hL := hL.call hB30
            have hx1 := hx1.ext hB30
            have hx5 := hx5.ext hB30
            refine W_guard_yes rfl ?_
            refine W_move rfl rfl ?_
            refine W_nil ?_
            exact N_step rfl rfl (by first | exact Below.refl _ _ | assumption)
          · intro w31 vq hB31 hH
            have hq31 := hB31.size
            have ha := ha.ext hB31
            have hb := hb.ext hB31
            have hL := hL.call hB31
            have hx1 := hx1.ext hB31
            have hx5 := hx5.ext hB31
            refine W_guard_yes rfl ?_
            refine W_call rfl Ty.named11 rfl (id_ret cs _ _ _ _ ha (by omega) (by omega)) ?_
            rintro v w32 ⟨rfl, hB32⟩
            replace ha := ha.ext hB32
            replace hb := hb.ext hB32
            replace hL := hL.call hB32
            replace hx1 := hx1.ext hB32
            replace hx5 := hx5.ext hB32
            have hq32 := hB32.size
            refine W_nil ?_
            exact N_step rfl rfl (by first | exact Below.refl _ _ | assumption)
          · intro w33 vq hB33 hH
            have ha := ha.ext hB33
            have hb := hb.ext hB33
            have hL := hL.call hB33
            have hx1 := hx1.ext hB33
            have hx5 := hx5.ext hB33
            refine W_guard_yes rfl ?_
            refine W_eql_u8s rfl Go.Proofs.Try.underlying25 Go.Proofs.Try.underlying5 Ty.cells5 Ty.info5 Ty.eqg25 rfl rfl (sha256_len _) (sha256_len _) ?_
            refine W_known (t := 43) true rfl (by simp) ?_
            refine W_nil ?_
            exact N_step rfl rfl (by first | exact Below.refl _ _ | assumption)
          · intro w34 vq hB34 hH
            have hq34 := hB34.size
            have ha := ha.ext hB34
            have hb := hb.ext hB34
            have hL := hL.call hB34
            have hx1 := hx1.ext hB34
            have hx5 := hx5.ext hB34
            refine W_pick_t rfl rfl rfl ?_
            refine W_nil ?_
            exact N_step rfl rfl (by first | exact Below.refl _ _ | assumption)
          · intro w35 vq hB35 hH
            have ha := ha.ext hB35
            have hb := hb.ext hB35
            have hL := hL.call hB35
            have hx1 := hx1.ext hB35
            have hx5 := hx5.ext hB35
            refine W_move rfl rfl ?_
            refine W_nil ?_
            exact N_step rfl rfl (by first | exact Below.refl _ _ | assumption)
          · intro w36 vq hB36 hH
            have ha := ha.ext hB36
            have hb := hb.ext hB36
            have hL := hL.call hB36
            have hx1 := hx1.ext hB36
            have hx5 := hx5.ext hB36
            refine W_guard_yes rfl ?_
            refine W_load_all 2 rfl Go.Proofs.Try.underlying25 rfl rfl hL rfl (by rw [List.length_map, sha256_len]; exact Ty.size25) ?_
            refine W_nil ?_
            exact N_step rfl rfl (by first | exact Below.refl _ _ | assumption)
          · intro w37 vq hB37 hH
            have ha := ha.ext hB37
            have hb := hb.ext hB37
            have hL := hL.call hB37
            have hx1 := hx1.ext hB37
            have hx5 := hx5.ext hB37
            refine W_guard_yes rfl ?_
            refine W_load_all 1 rfl Go.Proofs.Try.underlying25 rfl rfl hL rfl (by rw [List.length_map, sha256_len]; exact Ty.size25) ?_
            refine W_nil ?_
            exact N_step rfl rfl (by first | exact Below.refl _ _ | assumption)
          · intro w38 vq hB38 hH
            have ha := ha.ext hB38
            have hb := hb.ext hB38
            have hL := hL.call hB38
            have hx1 := hx1.ext hB38
            have hx5 := hx5.ext hB38
            refine W_guard_yes rfl ?_
            refine W_eql_u8s rfl Go.Proofs.Try.underlying25 Go.Proofs.Try.underlying5 Ty.cells5 Ty.info5 Ty.eqg25 rfl rfl (sha256_len _) (sha256_len _) ?_
            refine W_known (t := 48) true rfl (by simp [hsh]) ?_
            refine W_nil ?_
            exact N_step rfl rfl (by first | exact Below.refl _ _ | assumption)
          · intro w39 vq hB39 hH
            have ha := ha.ext hB39
            have hb := hb.ext hB39
            have hL := hL.call hB39
            have hx1 := hx1.ext hB39
            have hx5 := hx5.ext hB39
            refine W_guard_yes rfl ?_
            refine W_move rfl rfl ?_
            refine W_nil ?_
            exact N_step rfl rfl (by first | exact Below.refl _ _ | assumption)
          · intro w40 vq hB40 hH
            have ha := ha.ext hB40
            have hb := hb.ext hB40
            have hL := hL.call hB40
            have hx1 := hx1.ext hB40
            have hx5 := hx5.ext hB40
            refine W_guard_no rfl rfl rfl rfl rfl ?_
            refine W_nil ?_
            exact N_step rfl rfl (by first | exact Below.refl _ _ | assumption)
          · intro w41 vq hB41 hH
            have ha := ha.ext hB41
            have hb := hb.ext hB41
            have hL := hL.call hB41
            have hx1 := hx1.ext hB41
            have hx5 := hx5.ext hB41
            refine W_guard_no rfl rfl rfl rfl rfl ?_
            refine W_nil ?_
            exact N_step rfl rfl (by first | exact Below.refl _ _ | assumption)
          · intro w42 vq hB42 hH
            have hq42 := hB42.size
            have ha := ha.ext hB42
            have hb := hb.ext hB42
            have hL := hL.call hB42
            have hx1 := hx1.ext hB42
            have hx5 := hx5.ext hB42
            refine W_guard_no rfl rfl rfl rfl rfl ?_
            refine W_nil ?_
            exact N_step rfl rfl (by first | exact Below.refl _ _ | assumption)
          · intro w43 vq hB43 hH
            have hq43 := hB43.size
            have ha := ha.ext hB43
            have hb := hb.ext hB43
            have hL := hL.call hB43
            have hx1 := hx1.ext hB43
            have hx5 := hx5.ext hB43
            refine W_guard_no rfl rfl rfl rfl rfl ?_
            refine W_nil ?_
            exact N_step rfl rfl (by first | exact Below.refl _ _ | assumption)
          · intro w44 vq hB44 hH
            have hq44 := hB44.size
            have ha := ha.ext hB44
            have hb := hb.ext hB44
            have hL := hL.call hB44
            have hx1 := hx1.ext hB44
            have hx5 := hx5.ext hB44
            refine W_guard_yes rfl ?_
            refine W_pick_t rfl rfl rfl ?_
            refine W_nil ?_
            exact N_step rfl rfl (by first | exact Below.refl _ _ | assumption)
          · intro w45 vq hB45 hH
            have hq45 := hB45.size
            have ha := ha.ext hB45
            have hb := hb.ext hB45
            have hL := hL.call hB45
            have hx1 := hx1.ext hB45
            have hx5 := hx5.ext hB45
            refine W_pick_t rfl rfl rfl ?_
            refine W_nil ?_
            exact N_step rfl rfl (by first | exact Below.refl _ _ | assumption)
          · intro w46 vq hB46 hH
            have ha := ha.ext hB46
            have hb := hb.ext hB46
            have hL := hL.call hB46
            have hx1 := hx1.ext hB46
            have hx5 := hx5.ext hB46
            refine W_move rfl rfl ?_
            refine W_nil ?_
            exact N_step rfl rfl (by first | exact Below.refl _ _ | assumption)
          · intro w47 vq hB47 hH
            have hq47 := hB47.size
            have ha := ha.ext hB47
            have hb := hb.ext hB47
            have hL := hL.call hB47
            have hx1 := hx1.ext hB47
            have hx5 := hx5.ext hB47
            refine W_guard_yes rfl ?_
            refine W_call rfl Ty.named14 rfl (wakes_ret _) ?_
            rintro v w48 ⟨rfl, hB48⟩
            replace ha := ha.ext hB48
            replace hb := hb.ext hB48
            replace hL := hL.call hB48
            replace hx1 := hx1.ext hB48
            replace hx5 := hx5.ext hB48
            have hq48 := hB48.size
            refine W_nil ?_
            exact N_step rfl rfl (by first | exact Below.refl _ _ | assumption)
          · intro w49 vq hB49 hH
            have hq49 := hB49.size
            have ha := ha.ext hB49
            have hb := hb.ext hB49
            have hL := hL.call hB49
            have hx1 := hx1.ext hB49
            have hx5 := hx5.ext hB49
            refine W_pick_t rfl rfl rfl ?_
            refine W_nil ?_
            exact N_step rfl rfl (by first | exact Below.refl _ _ | assumption)
        intro w50 vq hB50 hH
        have hq50 := hB50.size
        obtain ⟨_, hR1, _, _, _, _, _, hR7, _, _, _, _, _, _, _, _, _, _, _, _, _, _, _, _, _, _, _, _, _, _, _, _, _⟩ := hH
        replace ha := ha.ext hB50
        replace hb := hb.ext hB50
        replace hL := hL.call hB50
        replace hx1 := hx1.ext hB50
        replace hx5 := hx5.ext hB50
        refine W_assign rfl rfl ?_
        refine W_nil ?_
        refine N_code ?_
        refine C_ret rfl rfl ?_
        exact ⟨rfl, hL.below⟩
      · skip
        apply C_draw 32 [[], [0], [1], [], [2, 3], [4], [5], [6, 5], [7, 5], [5], [8, 9, 5], [5, 10], [11], [12], [12], [14, 12], [13, 15, 12], [12, 16], [17], [18], [18], [19, 20, 18], [21, 18], [22], [22], [23, 24, 22], [25, 22], [22, 26, 18], [18, 27], [28], [29], [29, 30]] [.val _, .pred (fun v w => ∃ us, Rw 0 w.heap.size w.heap v us [cs]) stable_rwx, .val _, .val _, .val _, .val _, .val _, .pred (fun v w => ∃ us, Rw 0 w.heap.size w.heap v us [bs]) stable_rwx, .val _, .val _, .val _, .val _, .val _, .val _, .val _, .val _, .val _, .val _, .val _, .val _, .val _, .val _, .val _, .val _, .val _, .val _, .val _, .val _, .val _, .val _, .val _, .val _] Ty.mixed rfl rfl (by kernel_rfl) (by kernel_rfl) rfl
        · refine ⟨?_, ?_, ?_, ?_, ?_, ?_, ?_, ?_, ?_, ?_, ?_, ?_, ?_, ?_, ?_, ?_, ?_, ?_, ?_, ?_, ?_, ?_, ?_, ?_, ?_, ?_, ?_, ?_, ?_, ?_, ?_, ?_,  trivial⟩
          · intro w51 vq hB51 hH
            have ha := ha.ext hB51
            have hb := hb.ext hB51
            have hL := hL.call hB51
            have hx1 := hx1.ext hB51
            have hx5 := hx5.ext hB51
            refine W_move rfl rfl ?_
            refine W_nil ?_
            exact N_step rfl rfl (by first | exact Below.refl _ _ | assumption)
          · intro w52 vq hB52 hH
            have hq52 := hB52.size
            have ha := ha.ext hB52
            have hb := hb.ext hB52
            have hL := hL.call hB52
            have hx1 := hx1.ext hB52
            have hx5 := hx5.ext hB52
            refine W_bslice_sl encV [_] rfl Go.Proofs.Try.underlying22 Ty.cells28 Ty.zero28 rfl rfl rfl (fun _ => rfl) rfl rfl (one_cons ha.one one_nil) ?_
            intro u53 w53 hsz53 hB53 hx53
            replace ha := ha.ext hB53
            replace hb := hb.ext hB53
            replace hL := hL.call hB53
            replace hx1 := hx1.ext hB53
            replace hx5 := hx5.ext hB53
            refine W_nil ?_
            exact N_step rfl ⟨_, rw_of1 (hx53.widen (Nat.zero_le _) (Nat.le_refl _)) (ha.widen (Nat.zero_le _) (by omega))⟩ (by assumption)
          · intro w54 vq hB54 hH
            have hq54 := hB54.size
            obtain ⟨hR1, _⟩ := hH
            have ha := ha.ext hB54
            have hb := hb.ext hB54
            have hL := hL.call hB54
            have hx1 := hx1.ext hB54
            have hx5 := hx5.ext hB54
            refine W_call rfl Ty.named10 rfl (sum_rx [cs] _ _ hR1 (by simp only [List.flatten_cons, List.flatten_nil, List.append_nil, List.length_append, List.length_take, List.length_drop, chainL_len]; omega) (by simp)) ?_
            rintro v w55 ⟨rfl, hB55⟩
            replace ha := ha.ext hB55
            replace hb := hb.ext hB55
            replace hL := hL.call hB55
            replace hx1 := hx1.ext hB55
            replace hx5 := hx5.ext hB55
            have hq55 := hB55.size
            refine W_nil ?_
            exact N_step rfl rfl (by first | exact Below.refl _ _ | assumption)
          · intro w56 vq hB56 hH
            have ha := ha.ext hB56
            have hb := hb.ext hB56
            have hL := hL.call hB56
            have hx1 := hx1.ext hB56
            have hx5 := hx5.ext hB56
            refine W_load_all 2 rfl Go.Proofs.Try.underlying25 rfl rfl hL rfl (by rw [List.length_map, sha256_len]; exact Ty.size25) ?_
            refine W_nil ?_
            exact N_step rfl rfl (by first | exact Below.refl _ _ | assumption)
          · intro w57 vq hB57 hH
            have ha := ha.ext hB57
            have hb := hb.ext hB57
            have hL := hL.call hB57
            have hx1 := hx1.ext hB57
            have hx5 := hx5.ext hB57
            refine W_eql_u8s rfl Go.Proofs.Try.underlying25 Go.Proofs.Try.underlying5 Ty.cells5 Ty.info5 Ty.eqg25 rfl rfl (sha256_len _) (sha256_len _) ?_
            refine W_known (t := 31) true rfl (by simp) ?_
            refine W_nil ?_
            exact N_step rfl rfl (by first | exact Below.refl _ _ | assumption)
          · intro w58 vq hB58 hH
            have ha := ha.ext hB58
            have hb := hb.ext hB58
            have hL := hL.call hB58
            have hx1 := hx1.ext hB58
            have hx5 := hx5.ext hB58
            refine W_move rfl rfl ?_
            refine W_nil ?_
            exact N_step rfl rfl (by first | exact Below.refl _ _ | assumption)
          · intro w59 vq hB59 hH
            have ha := ha.ext hB59
            have hb := hb.ext hB59
            have hL := hL.call hB59
            have hx1 := hx1.ext hB59
            have hx5 := hx5.ext hB59
            refine W_guard_yes rfl ?_
            refine W_move rfl rfl ?_
            refine W_nil ?_
            exact N_step rfl rfl (by first | exact Below.refl _ _ | assumption)
          · intro w60 vq hB60 hH
            have hq60 := hB60.size
            have ha := ha.ext hB60
            have hb := hb.ext hB60
            have hL := hL.call hB60
            have hx1 := hx1.ext hB60
            have hx5 := hx5.ext hB60
            refine W_guard_yes rfl ?_
            refine W_bslice_sl encV [_] rfl Go.Proofs.Try.underlying22 Ty.cells28 Ty.zero28 rfl rfl rfl (fun _ => rfl) rfl rfl (one_cons hb.one one_nil) ?_
            intro u61 w61 hsz61 hB61 hx61
            replace ha := ha.ext hB61
            replace hb := hb.ext hB61
            replace hL := hL.call hB61
            replace hx1 := hx1.ext hB61
            replace hx5 := hx5.ext hB61
            refine W_nil ?_
            exact N_step rfl ⟨_, rw_of1 (hx61.widen (Nat.zero_le _) (Nat.le_refl _)) (hb.widen (Nat.zero_le _) (by omega))⟩ (by assumption)
          · intro w62 vq hB62 hH
            have hq62 := hB62.size
            obtain ⟨hR7, _, _⟩ := hH
            have ha := ha.ext hB62
            have hb := hb.ext hB62
            have hL := hL.call hB62
            have hx1 := hx1.ext hB62
            have hx5 := hx5.ext hB62
            refine W_guard_yes rfl ?_
            refine W_call rfl Ty.named10 rfl (sum_rx [bs] _ _ hR7 (by simp only [List.flatten_cons, List.flatten_nil, List.append_nil, List.length_append, List.length_take, List.length_drop, chainL_len]; omega) (by simp)) ?_
            rintro v w63 ⟨rfl, hB63⟩
            replace ha := ha.ext hB63
            replace hb := hb.ext hB63
            replace hL := hL.call hB63
            replace hx1 := hx1.ext hB63
            replace hx5 := hx5.ext hB63
            have hq63 := hB63.size
            refine W_nil ?_
            exact N_step rfl rfl (by first | exact Below.refl _ _ | assumption)
          · intro w64 vq hB64 hH
            have ha := ha.ext hB64
            have hb := hb.ext hB64
            have hL := hL.call hB64
            have hx1 := hx1.ext hB64
            have hx5 := hx5.ext hB64
            refine W_guard_yes rfl ?_
            refine W_load_all 1 rfl Go.Proofs.Try.underlying25 rfl rfl hL rfl (by rw [List.length_map, sha256_len]; exact Ty.size25) ?_
            refine W_nil ?_
            exact N_step rfl rfl (by first | exact Below.refl _ _ | assumption)
          · intro w65 vq hB65 hH
            have ha := ha.ext hB65
            have hb := hb.ext hB65
            have hL := hL.call hB65
            have hx1 := hx1.ext hB65
            have hx5 := hx5.ext hB65
            refine W_guard_yes rfl ?_
            refine W_eql_u8s rfl Go.Proofs.Try.underlying25 Go.Proofs.Try.underlying5 Ty.cells5 Ty.info5 Ty.eqg25 rfl rfl (sha256_len _) (sha256_len _) ?_
            refine W_known (t := 37) true rfl (by simp) ?_
            refine W_nil ?_
            exact N_step rfl rfl (by first | exact Below.refl _ _ | assumption)
          · intro w66 vq hB66 hH
            have hq66 := hB66.size
            have ha := ha.ext hB66
            have hb := hb.ext hB66
            have hL := hL.call hB66
            have hx1 := hx1.ext hB66
            have hx5 := hx5.ext hB66
            refine W_pick_t rfl rfl rfl ?_
            refine W_nil ?_
            exact N_step rfl rfl (by first | exact Below.refl _ _ | assumption)
          · intro w67 vq hB67 hH
            have ha := ha.ext hB67
            have hb := hb.ext hB67
            have hL := hL.call hB67
            have hx1 := hx1.ext hB67
            have hx5 := hx5.ext hB67
            refine W_move rfl rfl ?_
            refine W_nil ?_
            exact N_step rfl rfl (by first | exact Below.refl _ _ | assumption)
          · intro w68 vq hB68 hH
            have ha := ha.ext hB68
            have hb := hb.ext hB68
            have hL := hL.call hB68
            have hx1 := hx1.ext hB68
            have hx5 := hx5.ext hB68
            refine W_guard_yes rfl ?_
            refine W_load_all 2 rfl Go.Proofs.Try.underlying25 rfl rfl hL rfl (by rw [List.length_map, sha256_len]; exact Ty.size25) ?_
            refine W_nil ?_
            exact N_step rfl rfl (by first | exact Below.refl _ _ | assumption)
          · intro w69 vq hB69 hH
            have ha := ha.ext hB69
            have hb := hb.ext hB69
            have hL := hL.call hB69
            have hx1 := hx1.ext hB69
            have hx5 := hx5.ext hB69
            refine W_guard_yes rfl ?_
            refine W_move rfl rfl ?_
            refine W_nil ?_
            exact N_step rfl rfl (by first | exact Below.refl _ _ | assumption)
          · intro w70 vq hB70 hH
            have hq70 := hB70.size
            have ha := ha.ext hB70
            have hb := hb.ext hB70
            have hL := hL.call hB70
            have hx1 := hx1.ext hB70
            have hx5 := hx5.ext hB70
            refine W_guard_yes rfl ?_
            refine W_call rfl Ty.named11 rfl (id_ret cs _ _ _ _ ha (by omega) (by omega)) ?_
            rintro v w71 ⟨rfl, hB71⟩
            replace ha := ha.ext hB71
            replace hb := hb.ext hB71
            replace hL := hL.call hB71
            replace hx1 := hx1.ext hB71
            replace hx5 := hx5.ext hB71
            have hq71 := hB71.size
            refine W_nil ?_
            exact N_step rfl rfl (by first | exact Below.refl _ _ | assumption)
          · intro w72 vq hB72 hH
            have ha := ha.ext hB72
            have hb := hb.ext hB72
            have hL := hL.call hB72
            have hx1 := hx1.ext hB72
            have hx5 := hx5.ext hB72
            refine W_guard_yes rfl ?_
            refine W_eql_u8s rfl Go.Proofs.Try.underlying25 Go.Proofs.Try.underlying5 Ty.cells5 Ty.info5 Ty.eqg25 rfl rfl (sha256_len _) (sha256_len _) ?_
            refine W_known (t := 43) true rfl (by simp) ?_
            refine W_nil ?_
            exact N_step rfl rfl (by first | exact Below.refl _ _ | assumption)
          · intro w73 vq hB73 hH
            have hq73 := hB73.size
            have ha := ha.ext hB73
            have hb := hb.ext hB73
            have hL := hL.call hB73
            have hx1 := hx1.ext hB73
            have hx5 := hx5.ext hB73
            refine W_pick_t rfl rfl rfl ?_
            refine W_nil ?_
            exact N_step rfl rfl (by first | exact Below.refl _ _ | assumption)
          · intro w74 vq hB74 hH
            have ha := ha.ext hB74
            have hb := hb.ext hB74
            have hL := hL.call hB74
            have hx1 := hx1.ext hB74
            have hx5 := hx5.ext hB74
            refine W_move rfl rfl ?_
            refine W_nil ?_
            exact N_step rfl rfl (by first | exact Below.refl _ _ | assumption)
          · intro w75 vq hB75 hH
            have ha := ha.ext hB75
            have hb := hb.ext hB75
            have hL := hL.call hB75
            have hx1 := hx1.ext hB75
            have hx5 := hx5.ext hB75
            refine W_guard_yes rfl ?_
            refine W_load_all 2 rfl Go.Proofs.Try.underlying25 rfl rfl hL rfl (by rw [List.length_map, sha256_len]; exact Ty.size25) ?_
            refine W_nil ?_
            exact N_step rfl rfl (by first | exact Below.refl _ _ | assumption)
          · intro w76 vq hB76 hH
            have ha := ha.ext hB76
            have hb := hb.ext hB76
            have hL := hL.call hB76
            have hx1 := hx1.ext hB76
            have hx5 := hx5.ext hB76
            refine W_guard_yes rfl ?_
            refine W_load_all 1 rfl Go.Proofs.Try.underlying25 rfl rfl hL rfl (by rw [List.length_map, sha256_len]; exact Ty.size25) ?_
            refine W_nil ?_
            exact N_step rfl rfl (by first | exact Below.refl _ _ | assumption)
          · intro w77 vq hB77 hH
            have ha := ha.ext hB77
            have hb := hb.ext hB77
            have hL := hL.call hB77
            have hx1 := hx1.ext hB77
            have hx5 := hx5.ext hB77
            refine W_guard_yes rfl ?_
            refine W_eql_u8s rfl Go.Proofs.Try.underlying25 Go.Proofs.Try.underlying5 Ty.cells5 Ty.info5 Ty.eqg25 rfl rfl (sha256_len _) (sha256_len _) ?_
            refine W_known (t := 48) false rfl (by simp [hsh]) ?_
            refine W_nil ?_
            exact N_step rfl rfl (by first | exact Below.refl _ _ | assumption)
          · intro w78 vq hB78 hH
            have ha := ha.ext hB78
            have hb := hb.ext hB78
            have hL := hL.call hB78
            have hx1 := hx1.ext hB78
            have hx5 := hx5.ext hB78
            refine W_guard_yes rfl ?_
            refine W_move rfl rfl ?_
            refine W_nil ?_
            exact N_step rfl rfl (by first | exact Below.refl _ _ | assumption)
          · intro w79 vq hB79 hH
            have ha := ha.ext hB79
            have hb := hb.ext hB79
            have hL := hL.call hB79
            have hx1 := hx1.ext hB79
            have hx5 := hx5.ext hB79
            refine W_guard_yes rfl ?_
            refine W_move rfl rfl ?_
            refine W_nil ?_
            exact N_step rfl rfl (by first | exact Below.refl _ _ | assumption)
          · intro w80 vq hB80 hH
            have ha := ha.ext hB80
            have hb := hb.ext hB80
            have hL := hL.call hB80
            have hx1 := hx1.ext hB80
            have hx5 := hx5.ext hB80
            refine W_guard_yes rfl ?_
            refine W_move rfl rfl ?_
            refine W_nil ?_
            exact N_step rfl rfl (by first | exact Below.refl _ _ | assumption)
          · intro w81 vq hB81 hH
            have hq81 := hB81.size
            have ha := ha.ext hB81
            have hb := hb.ext hB81
            have hL := hL.call hB81
            have hx1 := hx1.ext hB81
            have hx5 := hx5.ext hB81
            refine W_guard_yes rfl ?_
            refine W_call rfl Ty.named15 rfl (bytes_ret cs bs _ _ _ _ _ _ _ ha hb (by omega)) ?_
            rintro v w82 ⟨rfl, hB82⟩
            replace ha := ha.ext hB82
            replace hb := hb.ext hB82
            replace hL := hL.call hB82
            replace hx1 := hx1.ext hB82
            replace hx5 := hx5.ext hB82
            have hq82 := hB82.size
            refine W_known (t := 52) false rfl (by simp; intro h; exact hsh (by rw [h])) ?_
            refine W_nil ?_
            exact N_step rfl rfl (by first | exact Below.refl _ _ | assumption)
          · intro w83 vq hB83 hH
            have hq83 := hB83.size
            have ha := ha.ext hB83
            have hb := hb.ext hB83
            have hL := hL.call hB83
            have hx1 := hx1.ext hB83
            have hx5 := hx5.ext hB83
            refine W_guard_yes rfl ?_
            refine W_not rfl rfl ?_
            refine W_known (t := 53) true rfl (by rfl) ?_
            refine W_nil ?_
            exact N_step rfl rfl (by first | exact Below.refl _ _ | assumption)
          · intro w84 vq hB84 hH
            have hq84 := hB84.size
            have ha := ha.ext hB84
            have hb := hb.ext hB84
            have hL := hL.call hB84
            have hx1 := hx1.ext hB84
            have hx5 := hx5.ext hB84
            refine W_guard_yes rfl ?_
            refine W_pick_f rfl rfl rfl ?_
            refine W_nil ?_
            exact N_step rfl rfl (by first | exact Below.refl _ _ | assumption)
          · intro w85 vq hB85 hH
            have hq85 := hB85.size
            have ha := ha.ext hB85
            have hb := hb.ext hB85
            have hL := hL.call hB85
            have hx1 := hx1.ext hB85
            have hx5 := hx5.ext hB85
            refine W_pick_t rfl rfl rfl ?_
            refine W_nil ?_
            exact N_step rfl rfl (by first | exact Below.refl _ _ | assumption)
          · intro w86 vq hB86 hH
            have ha := ha.ext hB86
            have hb := hb.ext hB86
            have hL := hL.call hB86
            have hx1 := hx1.ext hB86
            have hx5 := hx5.ext hB86
            refine W_move rfl rfl ?_
            refine W_nil ?_
            exact N_step rfl rfl (by first | exact Below.refl _ _ | assumption)
          · intro w87 vq hB87 hH
            have hq87 := hB87.size
            have ha := ha.ext hB87
            have hb := hb.ext hB87
            have hL := hL.call hB87
            have hx1 := hx1.ext hB87
            have hx5 := hx5.ext hB87
            refine W_guard_yes rfl ?_
            refine W_call rfl Ty.named14 rfl (wakes_ret _) ?_
            rintro v w88 ⟨rfl, hB88⟩
            replace ha := ha.ext hB88
            replace hb := hb.ext hB88
            replace hL := hL.call hB88
            replace hx1 := hx1.ext hB88
            replace hx5 := hx5.ext hB88
            have hq88 := hB88.size
            refine W_nil ?_
            exact N_step rfl rfl (by first | exact Below.refl _ _ | assumption)
          · intro w89 vq hB89 hH
            have hq89 := hB89.size
            have ha := ha.ext hB89
            have hb := hb.ext hB89
            have hL := hL.call hB89
            have hx1 := hx1.ext hB89
            have hx5 := hx5.ext hB89
            refine W_pick_t rfl rfl rfl ?_
            refine W_nil ?_
            exact N_step rfl rfl (by first | exact Below.refl _ _ | assumption)
        intro w90 vq hB90 hH
        have hq90 := hB90.size
        obtain ⟨_, hR1, _, _, _, _, _, hR7, _, _, _, _, _, _, _, _, _, _, _, _, _, _, _, _, _, _, _, _, _, _, _, _, _⟩ := hH
        replace ha := ha.ext hB90
        replace hb := hb.ext hB90
        replace hL := hL.call hB90
        replace hx1 := hx1.ext hB90
        replace hx5 := hx5.ext hB90
        refine W_assign rfl rfl ?_
        refine W_nil ?_
        refine N_code ?_
        refine C_ret rfl rfl ?_
        exact ⟨rfl, hL.below⟩

theorem chains_ret (bs : List UInt8) (k : Int) (vb : Value) (w : World) (lo hi : Nat) (hb : Sl lo hi w.heap 1 encB vb bs) (hhi : hi ≤ w.heap.size) : Ret Try.prog 7 #[vb, .int .i64 k] w fun v w' => v = .bool true ∧ Below w.heap.size w w' := by
  refine Ret_of (args := [vb, .int .i64 k]) Try.func7 rfl rfl ?_
  change C _ _ _ _ [(0, vb), (1, .int .i64 k)] _
  have hL := Led.nil w
  obtain ⟨ku, hku⟩ : ∃ m : Nat, IntKind.u64.wrap k = (m : Int) := ⟨(k % 18446744073709551616).toNat, by rw [u64_wrap]; omega⟩
  obtain ⟨r, hrl, hrem⟩ : ∃ r : Nat, r ≤ 19 ∧ (ku : Int).tmod 20 = (r : Int) := ⟨ku % 20, by omega, nat_tmod ku 20 _ rfl⟩
  refine C_seq ?_
  refine C_region ?_
  refine W_assign rfl rfl ?_
  refine W_nil ?_
  refine N_code ?_
  refine C_seq ?_
  refine C_seq ?_
  refine C_region ?_
  refine W_move rfl rfl ?_
  refine W_len_sl rfl Go.Proofs.Try.underlying28 rfl hb ?_
  refine W_gtr rfl rfl rfl ?_
  refine W_nil ?_
  refine N_code ?_
  refine C_cond rfl (fun hc10 => ?_) (fun hc10 => ?_)
  · have hc10 := of_decide_eq_true hc10
    refine C_seq ?_
    refine C_region ?_
    refine W_assign rfl rfl ?_
    refine W_nil ?_
    refine N_code ?_
    refine C_ret rfl rfl ?_
    exact ⟨rfl, hL.below⟩
  · have hc10 := of_decide_eq_false hc10
    refine C_skip ?_
    refine N_code ?_
    refine C_seq ?_
    refine C_region ?_
    refine W_move rfl rfl ?_
    refine W_conv rfl rfl Ty.some3 Go.Proofs.Try.underlying32 hku ?_
    refine W_rem rfl rfl rfl (by decide) hrem ?_
    refine W_conv rfl rfl Ty.some32 Go.Proofs.Try.underlying3 (i64_id (by omega) (by omega)) ?_
    refine W_assign rfl rfl ?_
    refine W_nil ?_
    refine N_code ?_
    refine C_seq ?_
    refine C_region ?_
    refine W_move rfl rfl ?_
    refine W_bslice_sl encV [_] rfl Go.Proofs.Try.underlying22 Ty.cells28 Ty.zero28 rfl rfl rfl (fun _ => rfl) rfl rfl (one_cons hb.one one_nil) ?_
    intro u1 w1 hsz1 hB1 hx1
    replace hb := hb.ext hB1
    replace hL := hL.call hB1
    have hR4 : Rw 0 w1.heap.size w1.heap _ [_] [bs] := rw_of1 (hx1.widen (Nat.zero_le _) (by omega)) (hb.widen (Nat.zero_le _) (by omega))
    refine W_call rfl Ty.named10 rfl (sum_ret [bs] _ _ _ _ _ hR4 (Nat.le_refl _) (by simp; omega) (by simp)) ?_
    rintro v w2 ⟨rfl, hB2⟩
    replace hb := hb.ext hB2
    replace hL := hL.call hB2
    replace hx1 := hx1.ext hB2
    have hq2 := hB2.size
    refine W_move rfl rfl ?_
    refine W_call rfl Ty.named11 rfl (id_ret bs _ _ _ _ hb (by omega) (by omega)) ?_
    rintro v w3 ⟨rfl, hB3⟩
    replace hb := hb.ext hB3
    replace hL := hL.call hB3
    replace hx1 := hx1.ext hB3
    have hq3 := hB3.size
    refine W_alloc rfl Ty.zero25 ?_
    intro g5 w4 hg5 hsz4 hB4 hb4
    replace hb := hb.ext hB4
    replace hL := hL.cons hB4 (by omega) (by omega) hb4
    replace hx1 := hx1.ext hB4
    refine W_alloc rfl Ty.zero25 ?_
    intro g6 w5 hg6 hsz5 hB5 hb5
    replace hb := hb.ext hB5
    replace hL := hL.cons hB5 (by omega) (by omega) hb5
    replace hx1 := hx1.ext hB5
    refine W_store_all 1 rfl rfl hL rfl (by rw [List.length_map, sha256_len]; exact Ty.size25) (by first | exact oneW _ | exact oneB _ | exact fun u hu => (oneCells_spec _ rfl u hu).2) (by rw [List.length_map, sha256_len]; rfl) ?_
    intro w6 hU6 hL
    have hu6 := hU6.size
    replace hb := hb.upd hU6 (by omega)
    replace hx1 := hx1.upd hU6 (by omega)
    rw [show [bs].flatten = bs by simp] at hL
    refine W_store_all 0 rfl rfl hL rfl (by rw [List.length_map, sha256_len]; exact Ty.size25) (by first | exact oneW _ | exact oneB _ | exact fun u hu => (oneCells_spec _ rfl u hu).2) (by rw [List.length_map, sha256_len]; rfl) ?_
    intro w7 hU7 hL
    have hu7 := hU7.size
    replace hb := hb.upd hU7 (by omega)
    replace hx1 := hx1.upd hU7 (by omega)
    refine W_nil ?_
    refine N_code ?_
    refine C_seq ?_
    refine C_seq ?_
    refine C_region ?_
    refine W_assign rfl rfl ?_
    refine W_nil ?_
    refine N_code ?_
    refine C_block ?_
    refine C_loop (fun (x : Nat) wr => x ≤ r ∧ Led w.heap.size w wr [(g6, 25, (chainL bs x).map cB), (g5, 25, (chainL bs x).map cB)] ∧ Sl lo hi wr.heap 1 encB vb bs ∧ g6 < wr.heap.size ∧ g5 < wr.heap.size ∧ w.heap.size ≤ wr.heap.size) (fun x => [(0, vb), (1, .int .i64 (r : Int)), (5, pl g5 0), (6, pl g6 0), (7, .int .i64 (x : Int))]) (fun x => r - x) (0) ?_ ?_ ?_
    · exact ⟨by omega, hL, hb, by omega, by omega, by omega⟩
    · exact ⟨rfl, rfl, rfl, rfl, rfl, trivial⟩
    rintro i w8 ⟨hi, hL, hb, hq6, hq5, hqw⟩
    refine C_seq ?_
    refine C_seq ?_
    refine C_region ?_
    refine W_move rfl rfl ?_
    refine W_move rfl rfl ?_
    refine W_lss rfl rfl rfl ?_
    refine W_nil ?_
    refine N_code ?_
    refine C_cond rfl (fun hc22 => ?_) (fun hc22 => ?_)
    · have hc22 := of_decide_eq_true hc22
      refine C_skip ?_
      refine N_code ?_
      refine C_seq ?_
      refine C_block ?_
      refine C_seq ?_
      apply C_draw 7 [[], [], [0, 1], [2], [], [4], []] [.pred (fun v w => Sl 0 w.heap.size w.heap 1 encB v (chainL bs i)) stable_sl, .val _, .pred (fun v w => ∃ us, Rw 0 w.heap.size w.heap v us [chainL bs i, bs]) stable_rwx, .val _, .pred (fun v w => Sl 0 w.heap.size w.heap 1 encB v (chainL bs i)) stable_sl, .pred (fun v w => Ow w w8.heap.size 5 1 encB v (chainL bs i)) stable_ow, .val _] Ty.mixed rfl rfl (by kernel_rfl) (by kernel_rfl) rfl
      · refine ⟨?_, ?_, ?_, ?_, ?_, ?_, ?_,  trivial⟩
        · intro w9 vq hB9 hH
          have hq9 := hB9.size
          have hL := hL.call hB9
          have hb := hb.ext hB9
          refine W_slice_arr 1 rfl Go.Proofs.Try.underlying25 Ty.info5 rfl hL rfl (chainL_len _ _) (by decide) ?_
          intro v10 hp10
          refine W_nil ?_
          exact N_step rfl (hp10.widen (Nat.zero_le _) (by omega)) (Below.refl _ _)
        · intro w11 vq hB11 hH
          have hL := hL.call hB11
          have hb := hb.ext hB11
          refine W_move rfl rfl ?_
          refine W_nil ?_
          exact N_step rfl rfl (by first | exact Below.refl _ _ | assumption)
        · intro w12 vq hB12 hH
          have hq12 := hB12.size
          obtain ⟨hS0, _, _⟩ := hH
          have hL := hL.call hB12
          have hb := hb.ext hB12
          refine W_bslice_sl encV [_, _] rfl Go.Proofs.Try.underlying22 Ty.cells28 Ty.zero28 rfl rfl rfl (fun _ => rfl) rfl rfl (one_cons hS0.one (one_cons hb.one one_nil)) ?_
          intro u13 w13 hsz13 hB13 hx13
          replace hL := hL.call hB13
          replace hb := hb.ext hB13
          replace hS0 := hS0.ext hB13
          refine W_nil ?_
          exact N_step rfl ⟨_, rw_of2 (hx13.widen (Nat.zero_le _) (Nat.le_refl _)) (hS0.widen (Nat.zero_le _) (by omega)) (hb.widen (Nat.zero_le _) (by omega))⟩ (by assumption)
        · intro w14 vq hB14 hH
          have hq14 := hB14.size
          obtain ⟨hR2, _⟩ := hH
          have hL := hL.call hB14
          have hb := hb.ext hB14
          refine W_call rfl Ty.named10 rfl (sum_rx [chainL bs i, bs] _ _ hR2 (by simp only [List.flatten_cons, List.flatten_nil, List.append_nil, List.length_append, List.length_take, List.length_drop, chainL_len]; omega) (by simp)) ?_
          rintro v w15 ⟨rfl, hB15⟩
          replace hL := hL.call hB15
          replace hb := hb.ext hB15
          have hq15 := hB15.size
          refine W_nil ?_
          exact N_step rfl rfl (by first | exact Below.refl _ _ | assumption)
        · intro w16 vq hB16 hH
          have hq16 := hB16.size
          have hL := hL.call hB16
          have hb := hb.ext hB16
          refine W_slice_arr 0 rfl Go.Proofs.Try.underlying25 Ty.info5 rfl hL rfl (chainL_len _ _) (by decide) ?_
          intro v17 hp17
          refine W_nil ?_
          exact N_step rfl (hp17.widen (Nat.zero_le _) (by omega)) (Below.refl _ _)
        · intro w18 vq hB18 hH
          have hq18 := hB18.size
          obtain ⟨hS4, _⟩ := hH
          have hL := hL.call hB18
          have hb := hb.ext hB18
          refine W_call rfl Ty.named16 rfl (twin_ret (chainL bs i) _ _ _ _ hS4 (by rw [chainL_len]; decide) (Nat.le_refl _)) ?_
          rintro z w19 ⟨hT, hB19⟩
          replace hL := hL.call hB19
          replace hb := hb.ext hB19
          replace hS4 := hS4.ext hB19
          have hq19 := hB19.size
          refine W_nil ?_
          exact N_step rfl (hT.base_le (by omega)) (by assumption)
        · intro w20 vq hB20 hH
          have hL := hL.call hB20
          have hb := hb.ext hB20
          refine W_move rfl rfl ?_
          refine W_nil ?_
          exact N_step rfl rfl (by first | exact Below.refl _ _ | assumption)
      intro w21 vq hB21 hH
      have hq21 := hB21.size
      obtain ⟨hS0, _, hR2, _, hS4, hO5, _, _⟩ := hH
      replace hL := hL.call hB21
      replace hb := hb.ext hB21
      refine W_append rfl Go.Proofs.Try.underlying28 Ty.row5 rfl (by decide) rfl rfl hO5 hb (encB_one _) (by simp only [chainL_len, maxLen]; omega) (by simp only [chainL_len]; omega) (by omega) ?_
      intro v22 w22 hN22 hG22
      have hZ22 := hG22.size
      replace hL := hL.grown2 hG22 hO5 (by omega) (by omega) (by omega)
      replace hb := hb.grown hG22 hO5 (by constructor <;> omega)
      replace hO5 := hN22; clear hN22 hG22
      refine W_call rfl Ty.named11 rfl (id_ret (chainL bs i ++ bs) _ _ _ _ hO5.sl (Nat.le_refl _) (by simp [chainL_len]; omega)) ?_
      rintro v w23 ⟨rfl, hB23⟩
      replace hL := hL.call hB23
      replace hb := hb.ext hB23
      replace hO5 := hO5.call hB23
      have hq23 := hB23.size
      refine W_store_all 1 rfl rfl hL rfl (by rw [List.length_map, sha256_len]; exact Ty.size25) (by first | exact oneW _ | exact oneB _ | exact fun u hu => (oneCells_spec _ rfl u hu).2) (by rw [List.length_map, List.length_map, sha256_len, chainL_len]) ?_
      intro w24 hU24 hL
      have hu24 := hU24.size
      replace hb := hb.upd hU24 (by omega)
      rw [show [chainL bs i, bs].flatten = chainL bs i ++ bs by simp] at hL
      refine W_store_all 0 rfl rfl hL rfl (by rw [List.length_map, sha256_len]; exact Ty.size25) (by first | exact oneW _ | exact oneB _ | exact fun u hu => (oneCells_spec _ rfl u hu).2) (by rw [List.length_map, List.length_map, sha256_len, chainL_len]) ?_
      intro w25 hU25 hL
      have hu25 := hU25.size
      replace hb := hb.upd hU25 (by omega)
      refine W_nil ?_
      refine N_code ?_
      refine C_seq ?_
      refine C_region ?_
      refine W_load_all 1 rfl Go.Proofs.Try.underlying25 rfl rfl hL rfl (by rw [List.length_map, sha256_len]; exact Ty.size25) ?_
      refine W_load_all 0 rfl Go.Proofs.Try.underlying25 rfl rfl hL rfl (by rw [List.length_map, sha256_len]; exact Ty.size25) ?_
      refine W_neq_u8s rfl Go.Proofs.Try.underlying25 Go.Proofs.Try.underlying5 Ty.cells5 Ty.info5 Ty.eqg25 rfl rfl (sha256_len _) (sha256_len _) ?_
      refine W_known (t := 36) false rfl (by simp) ?_
      refine W_nil ?_
      refine N_code ?_
      refine C_cond_f rfl ?_
      refine C_skip ?_
      refine N_block ?_
      refine N_code ?_
      refine C_region ?_
      refine W_move rfl rfl ?_
      refine W_add rfl rfl rfl (i64_id (by omega) (by omega)) ?_
      refine W_assign rfl rfl ?_
      refine W_nil ?_
      exact N_again (i + 1) ⟨by omega, hL, hb, by omega, by omega, by omega⟩ ⟨rfl, rfl, rfl, rfl, look_int rfl (by omega), trivial⟩ (by omega)
    · have hc22 := of_decide_eq_false hc22
      refine C_exit _ rfl ?_
      refine N_code ?_
      refine C_seq ?_
      refine C_region ?_
      refine W_load_all 1 rfl Go.Proofs.Try.underlying25 rfl rfl hL rfl (by rw [List.length_map, chainL_len]; exact Ty.size25) ?_
      refine W_load_all 0 rfl Go.Proofs.Try.underlying25 rfl rfl hL rfl (by rw [List.length_map, chainL_len]; exact Ty.size25) ?_
      refine W_eql_u8s rfl Go.Proofs.Try.underlying25 Go.Proofs.Try.underlying5 Ty.cells5 Ty.info5 Ty.eqg25 rfl rfl (chainL_len _ _) (chainL_len _ _) ?_
      refine W_known (t := 39) true rfl (by simp) ?_
      refine W_move rfl rfl ?_
      refine W_guard_yes rfl ?_
      refine W_call rfl Ty.named14 rfl (wakes_ret _) ?_
      rintro v w26 ⟨rfl, hB26⟩
      replace hL := hL.call hB26
      replace hb := hb.ext hB26
      have hq26 := hB26.size
      refine W_pick_t rfl rfl rfl ?_
      refine W_assign rfl rfl ?_
      refine W_nil ?_
      refine N_code ?_
      refine C_ret rfl rfl ?_
      exact ⟨rfl, hL.below⟩

theorem lengths_ret (w : World) : Ret Try.prog 4 #[] w fun v w' => v = .bool true ∧ Below w.heap.size w w' := by
  refine Ret_of (args := []) Try.func4 rfl rfl ?_
  change C _ _ _ _ [] _
  have hL := Led.nil w
  refine C_seq ?_
  refine C_region ?_
  refine W_assign rfl rfl ?_
  refine W_nil ?_
  refine N_code ?_
  refine C_seq ?_
  refine C_region ?_
  refine W_make_u8 200 rfl Go.Proofs.Try.underlying28 Ty.row5 rfl rfl (by omega) ?_
  intro u1 w1 hsz1 hB1 hx1
  replace hL := hL.call hB1
  refine W_assign rfl rfl ?_
  refine W_nil ?_
  refine N_code ?_
  refine C_seq ?_
  refine C_seq ?_
  obtain ⟨zs, hzl, hx1⟩ : ∃ zs : List UInt8, zs.length = 200 ∧ Sl w.heap.size w1.heap.size w1.heap 1 encB u1 zs := ⟨_, List.length_replicate .., hx1⟩
  refine C_region ?_
  refine W_assign rfl rfl ?_
  refine W_nil ?_
  refine N_code ?_
  refine C_block ?_
  refine C_loop (fun (x : Nat) wr => x ≤ 201 ∧ Led w.heap.size w wr [] ∧ Sl w.heap.size w1.heap.size wr.heap 1 encB u1 (zs) ∧ w1.heap.size ≤ wr.heap.size) (fun x => [(1, u1), (2, .int .i64 (x : Int))]) (fun x => 201 - x) (0) ?_ ?_ ?_
  · exact ⟨by omega, hL, hx1, by omega⟩
  · exact ⟨rfl, rfl, trivial⟩
  rintro i w2 ⟨hi, hL, hz, hq1⟩
  refine C_seq ?_
  refine C_seq ?_
  refine C_region ?_
  refine W_move rfl rfl ?_
  refine W_leq rfl rfl rfl ?_
  refine W_nil ?_
  refine N_code ?_
  refine C_cond rfl (fun hc5 => ?_) (fun hc5 => ?_)
  · have hc5 := of_decide_eq_true hc5
    refine C_skip ?_
    refine N_code ?_
    refine C_seq ?_
    refine C_block ?_
    refine C_seq ?_
    apply C_draw 29 [[], [], [0, 1], [2], [3], [], [], [5, 6], [7], [4, 8], [9], [10], [10], [12, 10], [11, 13, 10], [10], [10], [16, 10], [10], [15, 17, 18, 10], [14, 19, 10], [20, 10], [10], [10], [22, 23, 10], [24, 10], [25, 10], [21, 26, 10], [10, 27]] [.val _, .val _, .pred (fun v w => Sl 0 w.heap.size w.heap 1 encB v ((zs).take i)) stable_sl, .pred (fun v w => ∃ us, Rw 0 w.heap.size w.heap v us [(zs).take i]) stable_rwx, .val _, .val _, .val _, .pred (fun v w => Sl 0 w.heap.size w.heap 1 encB v ((zs).take i)) stable_sl, .val _, .val _, .val _, .val _, .val _, .val _, .pred (fun v w => Sl 0 w.heap.size w.heap 1 encB v ((zs).take (i / 2))) stable_sl, .val _, .val _, .val _, .val _, .pred (fun v w => Sl 0 w.heap.size w.heap 1 encB v (((zs).take i).drop (i / 2))) stable_sl, .pred (fun v w => ∃ us, Rw 0 w.heap.size w.heap v us [(zs).take (i / 2), ((zs).take i).drop (i / 2)]) stable_rwx, .val _, .val _, .val _, .pred (fun v w => Sl 0 w.heap.size w.heap 1 encB v ((zs).take i)) stable_sl, .pred (fun v w => ∃ us, Rw 0 w.heap.size w.heap v us [(zs).take i]) stable_rwx, .val _, .val _, .val _] Ty.mixed rfl rfl (by kernel_rfl) (by kernel_rfl) rfl
    · refine ⟨?_, ?_, ?_, ?_, ?_, ?_, ?_, ?_, ?_, ?_, ?_, ?_, ?_, ?_, ?_, ?_, ?_, ?_, ?_, ?_, ?_, ?_, ?_, ?_, ?_, ?_, ?_, ?_, ?_,  trivial⟩
      · intro w3 vq hB3 hH
        have hL := hL.call hB3
        have hz := hz.ext hB3
        refine W_move rfl rfl ?_
        refine W_nil ?_
        exact N_step rfl rfl (by first | exact Below.refl _ _ | assumption)
      · intro w4 vq hB4 hH
        have hL := hL.call hB4
        have hz := hz.ext hB4
        refine W_move rfl rfl ?_
        refine W_nil ?_
        exact N_step rfl rfl (by first | exact Below.refl _ _ | assumption)
      · intro w5 vq hB5 hH
        have hq5 := hB5.size
        have hL := hL.call hB5
        have hz := hz.ext hB5
        refine W_slice 0 _ rfl Go.Proofs.Try.underlying28 Ty.cells5 Ty.info5 rfl (by rfl) ⟨_, rfl⟩ hz (by omega) (by omega) ?_
        intro v6 hp6
        refine W_nil ?_
        exact N_step rfl (hp6.widen (Nat.zero_le _) (by omega)) (Below.refl _ _)
      · intro w7 vq hB7 hH
        have hq7 := hB7.size
        obtain ⟨hS2, _⟩ := hH
        have hL := hL.call hB7
        have hz := hz.ext hB7
        refine W_bslice_sl encV [_] rfl Go.Proofs.Try.underlying22 Ty.cells28 Ty.zero28 rfl rfl rfl (fun _ => rfl) rfl rfl (one_cons hS2.one one_nil) ?_
        intro u8 w8 hsz8 hB8 hx8
        replace hL := hL.call hB8
        replace hz := hz.ext hB8
        replace hS2 := hS2.ext hB8
        refine W_nil ?_
        exact N_step rfl ⟨_, rw_of1 (hx8.widen (Nat.zero_le _) (Nat.le_refl _)) (hS2.widen (Nat.zero_le _) (by omega))⟩ (by assumption)
      · intro w9 vq hB9 hH
        have hq9 := hB9.size
        obtain ⟨hR3, _⟩ := hH
        have hL := hL.call hB9
        have hz := hz.ext hB9
        refine W_call rfl Ty.named10 rfl (sum_rx [(zs).take i] _ _ hR3 (by simp only [List.flatten_cons, List.flatten_nil, List.append_nil, List.length_append, List.length_take, List.length_drop, chainL_len]; omega) (by simp)) ?_
        rintro v w10 ⟨rfl, hB10⟩
        replace hL := hL.call hB10
        replace hz := hz.ext hB10
        have hq10 := hB10.size
        refine W_nil ?_
        exact N_step rfl rfl (by first | exact Below.refl _ _ | assumption)
      · intro w11 vq hB11 hH
        have hL := hL.call hB11
        have hz := hz.ext hB11
        refine W_move rfl rfl ?_
        refine W_nil ?_
        exact N_step rfl rfl (by first | exact Below.refl _ _ | assumption)
      · intro w12 vq hB12 hH
        have hL := hL.call hB12
        have hz := hz.ext hB12
        refine W_move rfl rfl ?_
        refine W_nil ?_
        exact N_step rfl rfl (by first | exact Below.refl _ _ | assumption)
      · intro w13 vq hB13 hH
        have hq13 := hB13.size
        have hL := hL.call hB13
        have hz := hz.ext hB13
        refine W_slice 0 _ rfl Go.Proofs.Try.underlying28 Ty.cells5 Ty.info5 rfl (by rfl) ⟨_, rfl⟩ hz (by omega) (by omega) ?_
        intro v14 hp14
        refine W_nil ?_
        exact N_step rfl (hp14.widen (Nat.zero_le _) (by omega)) (Below.refl _ _)
      · intro w15 vq hB15 hH
        have hq15 := hB15.size
        obtain ⟨hS7, _⟩ := hH
        have hL := hL.call hB15
        have hz := hz.ext hB15
        refine W_call rfl Ty.named11 rfl (id_ret ((zs).take i) _ _ _ _ hS7 (Nat.le_refl _) (by simp; omega)) ?_
        rintro v w16 ⟨rfl, hB16⟩
        replace hL := hL.call hB16
        replace hz := hz.ext hB16
        replace hS7 := hS7.ext hB16
        have hq16 := hB16.size
        refine W_nil ?_
        exact N_step rfl rfl (by first | exact Below.refl _ _ | assumption)
      · intro w17 vq hB17 hH
        have hL := hL.call hB17
        have hz := hz.ext hB17
        refine W_neq_u8s rfl Go.Proofs.Try.underlying25 Go.Proofs.Try.underlying5 Ty.cells5 Ty.info5 Ty.eqg25 rfl rfl (sha256_len _) (sha256_len _) ?_
        refine W_known (t := 17) false rfl (by simp) ?_
        refine W_nil ?_
        exact N_step rfl rfl (by first | exact Below.refl _ _ | assumption)
      · intro w18 vq hB18 hH
        have hL := hL.call hB18
        have hz := hz.ext hB18
        refine W_move rfl rfl ?_
        refine W_nil ?_
        exact N_step rfl rfl (by first | exact Below.refl _ _ | assumption)
      · intro w19 vq hB19 hH
        have hL := hL.call hB19
        have hz := hz.ext hB19
        refine W_guard_yes rfl ?_
        refine W_move rfl rfl ?_
        refine W_nil ?_
        exact N_step rfl rfl (by first | exact Below.refl _ _ | assumption)
      · intro w20 vq hB20 hH
        have hL := hL.call hB20
        have hz := hz.ext hB20
        refine W_guard_yes rfl ?_
        refine W_move rfl rfl ?_
        refine W_nil ?_
        exact N_step rfl rfl (by first | exact Below.refl _ _ | assumption)
      · intro w21 vq hB21 hH
        have hL := hL.call hB21
        have hz := hz.ext hB21
        refine W_guard_yes rfl ?_
        refine W_quo rfl rfl rfl (by decide) (nat_tdiv _ 2 _ rfl (by omega)) ?_
        refine W_nil ?_
        exact N_step rfl rfl (by first | exact Below.refl _ _ | assumption)
      · intro w22 vq hB22 hH
        have hq22 := hB22.size
        have hL := hL.call hB22
        have hz := hz.ext hB22
        refine W_guard_yes rfl ?_
        refine W_slice 0 _ rfl Go.Proofs.Try.underlying28 Ty.cells5 Ty.info5 rfl (by rfl) ⟨_, rfl⟩ hz (by omega) (by omega) ?_
        intro v23 hp23
        refine W_nil ?_
        exact N_step rfl (hp23.widen (Nat.zero_le _) (by omega)) (Below.refl _ _)
      · intro w24 vq hB24 hH
        have hL := hL.call hB24
        have hz := hz.ext hB24
        refine W_guard_yes rfl ?_
        refine W_move rfl rfl ?_
        refine W_nil ?_
        exact N_step rfl rfl (by first | exact Below.refl _ _ | assumption)
      · intro w25 vq hB25 hH
        have hL := hL.call hB25
        have hz := hz.ext hB25
        refine W_guard_yes rfl ?_
        refine W_move rfl rfl ?_
        refine W_nil ?_
        exact N_step rfl rfl (by first | exact Below.refl _ _ | assumption)
      · intro w26 vq hB26 hH
        have hL := hL.call hB26
        have hz := hz.ext hB26
        refine W_guard_yes rfl ?_
        refine W_quo rfl rfl rfl (by decide) (nat_tdiv _ 2 _ rfl (by omega)) ?_
        refine W_nil ?_
        exact N_step rfl rfl (by first | exact Below.refl _ _ | assumption)
      · intro w27 vq hB27 hH
        have hL := hL.call hB27
        have hz := hz.ext hB27
        refine W_guard_yes rfl ?_
        refine W_move rfl rfl ?_
        refine W_nil ?_
        exact N_step rfl rfl (by first | exact Below.refl _ _ | assumption)
      · intro w28 vq hB28 hH
        have hq28 := hB28.size
        have hL := hL.call hB28
        have hz := hz.ext hB28
        refine W_guard_yes rfl ?_
        refine W_slice _ _ rfl Go.Proofs.Try.underlying28 Ty.cells5 Ty.info5 rfl ⟨_, rfl⟩ ⟨_, rfl⟩ hz (by omega) (by omega) ?_
        intro v29 hp29
        refine W_nil ?_
        exact N_step rfl (hp29.widen (Nat.zero_le _) (by omega)) (Below.refl _ _)
      · intro w30 vq hB30 hH
        have hq30 := hB30.size
        obtain ⟨hS14, hS19, _, _⟩ := hH
        have hL := hL.call hB30
        have hz := hz.ext hB30
        refine W_guard_yes rfl ?_
        refine W_bslice_sl encV [_, _] rfl Go.Proofs.Try.underlying22 Ty.cells28 Ty.zero28 rfl rfl rfl (fun _ => rfl) rfl rfl (one_cons hS14.one (one_cons hS19.one one_nil)) ?_
        intro u31 w31 hsz31 hB31 hx31
        replace hL := hL.call hB31
        replace hz := hz.ext hB31
        replace hS14 := hS14.ext hB31
        replace hS19 := hS19.ext hB31
        refine W_nil ?_
        exact N_step rfl ⟨_, rw_of2 (hx31.widen (Nat.zero_le _) (Nat.le_refl _)) (hS14.widen (Nat.zero_le _) (by omega)) (hS19.widen (Nat.zero_le _) (by omega))⟩ (by assumption)
      · intro w32 vq hB32 hH
        have hq32 := hB32.size
        obtain ⟨hR20, _, _⟩ := hH
        have hL := hL.call hB32
        have hz := hz.ext hB32
        refine W_guard_yes rfl ?_
        refine W_call rfl Ty.named10 rfl (sum_rx [(zs).take (i / 2), ((zs).take i).drop (i / 2)] _ _ hR20 (by simp only [List.flatten_cons, List.flatten_nil, List.append_nil, List.length_append, List.length_take, List.length_drop, chainL_len]; omega) (by simp)) ?_
        rintro v w33 ⟨rfl, hB33⟩
        replace hL := hL.call hB33
        replace hz := hz.ext hB33
        have hq33 := hB33.size
        refine W_nil ?_
        exact N_step rfl rfl (by first | exact Below.refl _ _ | assumption)
      · intro w34 vq hB34 hH
        have hL := hL.call hB34
        have hz := hz.ext hB34
        refine W_guard_yes rfl ?_
        refine W_move rfl rfl ?_
        refine W_nil ?_
        exact N_step rfl rfl (by first | exact Below.refl _ _ | assumption)
      · intro w35 vq hB35 hH
        have hL := hL.call hB35
        have hz := hz.ext hB35
        refine W_guard_yes rfl ?_
        refine W_move rfl rfl ?_
        refine W_nil ?_
        exact N_step rfl rfl (by first | exact Below.refl _ _ | assumption)
      · intro w36 vq hB36 hH
        have hq36 := hB36.size
        have hL := hL.call hB36
        have hz := hz.ext hB36
        refine W_guard_yes rfl ?_
        refine W_slice 0 _ rfl Go.Proofs.Try.underlying28 Ty.cells5 Ty.info5 rfl (by rfl) ⟨_, rfl⟩ hz (by omega) (by omega) ?_
        intro v37 hp37
        refine W_nil ?_
        exact N_step rfl (hp37.widen (Nat.zero_le _) (by omega)) (Below.refl _ _)
      · intro w38 vq hB38 hH
        have hq38 := hB38.size
        obtain ⟨hS24, _, _⟩ := hH
        have hL := hL.call hB38
        have hz := hz.ext hB38
        refine W_guard_yes rfl ?_
        refine W_bslice_sl encV [_] rfl Go.Proofs.Try.underlying22 Ty.cells28 Ty.zero28 rfl rfl rfl (fun _ => rfl) rfl rfl (one_cons hS24.one one_nil) ?_
        intro u39 w39 hsz39 hB39 hx39
        replace hL := hL.call hB39
        replace hz := hz.ext hB39
        replace hS24 := hS24.ext hB39
        refine W_nil ?_
        exact N_step rfl ⟨_, rw_of1 (hx39.widen (Nat.zero_le _) (Nat.le_refl _)) (hS24.widen (Nat.zero_le _) (by omega))⟩ (by assumption)
      · intro w40 vq hB40 hH
        have hq40 := hB40.size
        obtain ⟨hR25, _, _⟩ := hH
        have hL := hL.call hB40
        have hz := hz.ext hB40
        refine W_guard_yes rfl ?_
        refine W_call rfl Ty.named10 rfl (sum_rx [(zs).take i] _ _ hR25 (by simp only [List.flatten_cons, List.flatten_nil, List.append_nil, List.length_append, List.length_take, List.length_drop, chainL_len]; omega) (by simp)) ?_
        rintro v w41 ⟨rfl, hB41⟩
        replace hL := hL.call hB41
        replace hz := hz.ext hB41
        have hq41 := hB41.size
        refine W_nil ?_
        exact N_step rfl rfl (by first | exact Below.refl _ _ | assumption)
      · intro w42 vq hB42 hH
        have hL := hL.call hB42
        have hz := hz.ext hB42
        refine W_guard_yes rfl ?_
        refine W_neq_u8s rfl Go.Proofs.Try.underlying25 Go.Proofs.Try.underlying5 Ty.cells5 Ty.info5 Ty.eqg25 rfl rfl (sha256_len _) (sha256_len _) ?_
        refine W_known (t := 35) false rfl (by simp [halves]) ?_
        refine W_nil ?_
        exact N_step rfl rfl (by first | exact Below.refl _ _ | assumption)
      · intro w43 vq hB43 hH
        have hq43 := hB43.size
        have hL := hL.call hB43
        have hz := hz.ext hB43
        refine W_pick_f rfl rfl rfl ?_
        refine W_nil ?_
        exact N_step rfl rfl (by first | exact Below.refl _ _ | assumption)
    intro w44 vq hB44 hH
    have hq44 := hB44.size
    obtain ⟨_, _, hS2, hR3, _, _, _, hS7, _, _, _, _, _, _, hS14, _, _, _, _, hS19, hR20, _, _, _, hS24, hR25, _, _, _, _⟩ := hH
    replace hL := hL.call hB44
    replace hz := hz.ext hB44
    refine W_nil ?_
    refine N_code ?_
    refine C_cond_f rfl ?_
    refine C_skip ?_
    refine N_block ?_
    refine N_code ?_
    refine C_region ?_
    refine W_move rfl rfl ?_
    refine W_add rfl rfl rfl (i64_id (by omega) (by omega)) ?_
    refine W_assign rfl rfl ?_
    refine W_nil ?_
    exact N_again (i + 1) ⟨by omega, hL, hz, by omega⟩ ⟨rfl, look_int rfl (by omega), trivial⟩ (by omega)
  · have hc5 := of_decide_eq_false hc5
    refine C_exit _ rfl ?_
    refine N_code ?_
    refine C_seq ?_
    refine C_region ?_
    refine W_call rfl Ty.named14 rfl (wakes_ret _) ?_
    rintro v w45 ⟨rfl, hB45⟩
    replace hL := hL.call hB45
    replace hz := hz.ext hB45
    have hq45 := hB45.size
    refine W_assign rfl rfl ?_
    refine W_nil ?_
    refine N_code ?_
    refine C_ret rfl rfl ?_
    exact ⟨rfl, hL.below⟩

end Go.Wk.Sha
