import Derived.Test.YtoanecpanckkeaaShaA
import Derived.Test.YtoanecpanckkeaaRow
namespace Go.Wk.Sha
open Go.Proofs Go.RowKit
set_option linter.unusedVariables false

theorem len8 (n : UInt64) : n * 8 = n <<< UInt64.ofNat 3 := by
  apply UInt64.toNat.inj
  rw [UInt64.toNat_mul, UInt64.toNat_shiftLeft, Nat.shiftLeft_eq]
  rfl
theorem amount8 (j : Nat) (hj : j < 8) : (((8 : UInt64) * UInt64.ofNat (7 - j)).toNat : Int).toNat = 8 * (7 - j) := by
  rw [UInt64.toNat_mul, UInt64.toNat_ofNat']
  simp only [Int.toNat_natCast]
  have : (8 : UInt64).toNat = 8 := rfl
  rw [this]; omega
theorem amount8' (j : Nat) (hj : j < 8) : 0 ≤ (((8 : UInt64) * UInt64.ofNat (7 - j)).toNat : Int) ∧ (((8 : UInt64) * UInt64.ofNat (7 - j)).toNat : Int) ≤ IntKind.u64.bits := by
  have h := amount8 j hj
  have h2 : (IntKind.u64.bits : Int) = 64 := rfl
  rw [h2]; omega

theorem rpadded_ret (bs : List UInt8) (vb : Value) (w : World) (lo hi : Nat) (hb : Sl lo hi w.heap 1 encB vb bs) (hlen : bs.length ≤ 1000000000) (hhi : hi ≤ w.heap.size) : Ret Try.prog 102 #[vb] w fun v w' => Sl w.heap.size w'.heap.size w'.heap 1 encB v (padL bs) ∧ Below w.heap.size w w' := by
  refine Ret_of (args := [vb]) Try.func102 rfl rfl ?_
  change C _ _ _ _ [(0, vb)] _
  have hL := Led.nil w
  refine C_seq ?_
  refine C_region ?_
  refine W_assign rfl rfl ?_
  refine W_nil ?_
  refine N_code ?_
  refine C_seq ?_
  refine C_region ?_
  refine W_assign rfl rfl ?_
  have hO := Ow.nil w w.heap.size 5 1 encB (fun _ => rfl)
  refine W_nil ?_
  refine N_code ?_
  refine C_seq ?_
  refine C_region ?_
  refine W_move rfl rfl ?_
  refine W_move rfl rfl ?_
  refine W_append rfl Go.Proofs.Try.underlying25 Ty.row5 rfl (by decide) rfl rfl hO hb (encB_one _) (by simp [maxLen]; omega) (by simp; omega) (by omega) ?_
  intro v1 w1 hN1 hG1 _
  have hZ1 := hG1.size
  replace hb := hb.grown hG1 hO (by constructor <;> omega)
  replace hL := hL.grown0 hG1 hO (by omega)
  replace hO := hN1; clear hN1 hG1
  refine W_bslice_sl encB [128] rfl Go.Proofs.Try.underlying25 Ty.cells5 Ty.zero5 rfl rfl rfl (fun _ => rfl) rfl rfl rfl ?_
  intro u2 w2 hsz2 hB2 hx2
  replace hb := hb.ext hB2
  replace hL := hL.call hB2
  replace hO := hO.call hB2
  refine W_append rfl Go.Proofs.Try.underlying25 Ty.row5 rfl (by decide) rfl rfl hO hx2 (encB_one _) (by simp [maxLen]; omega) (by simp; omega) (by omega) ?_
  intro v3 w3 hN3 hG3 _
  have hZ3 := hG3.size
  replace hb := hb.grown hG3 hO (by constructor <;> omega)
  replace hL := hL.grown0 hG3 hO (by omega)
  replace hO := hN3; clear hN3 hG3
  refine W_assign rfl rfl ?_
  refine W_nil ?_
  refine N_code ?_
  refine C_seq ?_
  refine C_block ?_
  refine C_loop (fun (x : Nat × Value) wr => Ow wr w.heap.size 5 1 encB x.2 (bs ++ [128] ++ List.replicate x.1 0) ∧ Led w.heap.size w wr [] ∧ w.heap.size ≤ wr.heap.size ∧ Sl lo hi wr.heap 1 encB vb bs ∧ x.1 < 64 ∧ ∀ j, j < x.1 → (bs.length + 1 + j) % 64 ≠ 56) (fun x => [(0, vb), (3, x.2)]) (fun x => 64 - x.1) (0, v3) ?_ ?_ ?_
  · exact ⟨by simpa using hO, hL, by omega, hb, by omega, fun j hj => by omega⟩
  · exact ⟨rfl, rfl, trivial⟩
  rintro ⟨z, vo⟩ w4 ⟨hO, hL, hq0, hb, hz, hno⟩
  simp only at hO hz hno
  refine C_seq ?_
  refine C_seq ?_
  refine C_region ?_
  refine W_move rfl rfl ?_
  refine W_len_sl rfl Go.Proofs.Try.underlying25 rfl hO.sl ?_
  refine W_add rfl rfl rfl (i64_id (by omega) (by simp; omega)) ?_
  refine W_rem rfl rfl rfl (by decide) (nat_tmod _ 64 _ rfl) ?_
  refine W_neq rfl rfl rfl ?_
  refine W_nil ?_
  refine N_code ?_
  refine C_cond rfl (fun hc15 => ?_) (fun hc15 => ?_)
  · have hc15 := of_decide_eq_true hc15
    refine C_skip ?_
    refine N_code ?_
    refine C_block ?_
    refine C_region ?_
    refine W_move rfl rfl ?_
    refine W_bslice_sl encB [0] rfl Go.Proofs.Try.underlying25 Ty.cells5 Ty.zero5 rfl rfl rfl (fun _ => rfl) rfl rfl rfl ?_
    intro u5 w5 hsz5 hB5 hx5
    replace hb := hb.ext hB5
    replace hL := hL.call hB5
    replace hO := hO.call hB5
    refine W_append rfl Go.Proofs.Try.underlying25 Ty.row5 rfl (by decide) rfl rfl hO hx5 (encB_one _) (by simp [maxLen]; omega) (by simp; omega) (by omega) ?_
    intro v6 w6 hN6 hG6 _
    have hZ6 := hG6.size
    replace hb := hb.grown hG6 hO (by constructor <;> omega)
    replace hL := hL.grown0 hG6 hO (by omega)
    replace hO := hN6; clear hN6 hG6
    refine W_assign rfl rfl ?_
    refine W_nil ?_
    refine N_block ?_
    have hne : (bs.length + 1 + z) % 64 ≠ 56 := by intro h; apply hc15; simp; omega
    exact N_again (z + 1, _) ⟨by simpa [List.replicate_succ', List.append_assoc] using hO, hL, by omega, hb, by have := hno; (by_cases hzz : z = 63; (exfalso; have := hno ((119 - bs.length % 64) % 64); (by_cases hq : (119 - bs.length % 64) % 64 = 63; omega; exact this (by omega) (by omega))); (show z + 1 < 64; omega)), fun j hj => by (by_cases hjz : j = z; (subst hjz; exact hne); exact hno j (by have : j < z + 1 := hj; omega))⟩ ⟨rfl, rfl, trivial⟩ (by show 64 - (z + 1) < 64 - z; omega)
  · have hc15 := of_decide_eq_false hc15
    have hz56 : (bs.length + 1 + z) % 64 = 56 := by simp at hc15; omega
    have hze : z = zerosOf bs.length := zeros_eq hz56 hz
    subst hze
    refine C_exit _ rfl ?_
    refine N_code ?_
    refine C_seq ?_
    refine C_region ?_
    refine W_move rfl rfl ?_
    refine W_len_sl rfl Go.Proofs.Try.underlying25 rfl hb ?_
    refine W_conv rfl rfl Ty.some3 Go.Proofs.Try.underlying99 (i64_u64 _) ?_
    refine W_mul rfl rfl (show ev _ _ = some (.int .u64 (((8 : UInt64)).toNat : Int)) from rfl) (u64_mul _ _) ?_
    refine W_assign rfl rfl ?_
    refine W_nil ?_
    refine N_code ?_
    refine C_seq ?_
    refine C_seq ?_
    refine C_region ?_
    refine W_assign rfl rfl ?_
    refine W_nil ?_
    refine N_code ?_
    refine C_block ?_
    refine C_loop (fun (x : Nat × Value) wr => Ow wr w.heap.size 5 1 encB x.2 (bs ++ [128] ++ List.replicate (zerosOf bs.length) 0 ++ (List.range x.1).map (lenByte ((UInt64.ofNat bs.length) <<< UInt64.ofNat 3))) ∧ Led w.heap.size w wr [] ∧ w.heap.size ≤ wr.heap.size ∧ x.1 ≤ 8) (fun x => [(3, x.2), (4, .int .u64 (((UInt64.ofNat bs.length) <<< UInt64.ofNat 3).toNat : Int)), (5, .int .i64 (7 - (x.1 : Int)))]) (fun x => 8 - x.1) (0, vo) ?_ ?_ ?_
    · exact ⟨by simpa using hO, hL, by omega, by omega⟩
    · exact ⟨rfl, look_int rfl (by rw [len8]), look_int rfl (by simp), trivial⟩
    rintro ⟨j, vo2⟩ w7 ⟨hO, hL, hq0, hj⟩
    simp only at hO hj
    refine C_seq ?_
    refine C_seq ?_
    refine C_region ?_
    refine W_move rfl rfl ?_
    refine W_geq rfl rfl rfl ?_
    refine W_nil ?_
    refine N_code ?_
    refine C_cond rfl (fun hc24 => ?_) (fun hc24 => ?_)
    · have hc24 := of_decide_eq_true hc24
      refine C_skip ?_
      refine N_code ?_
      refine C_seq ?_
      refine C_block ?_
      refine C_region ?_
      refine W_move rfl rfl ?_
      refine W_move rfl rfl ?_
      refine W_move rfl rfl ?_
      refine W_conv rfl rfl Ty.some3 Go.Proofs.Try.underlying24 (u64_of_int _ (7 - j) (by omega)) ?_
      refine W_mul rfl (show ev _ _ = some (.int .u64 (((8 : UInt64)).toNat : Int)) from rfl) rfl (u64_mul _ _) ?_
      refine W_shr rfl rfl rfl (amount8' j (by omega)).1 (amount8' j (by omega)).2 (u64_shr _ _ (8 * (7 - j)) (amount8 j (by omega)) (by omega)) ?_
      refine W_conv rfl rfl Ty.some99 Go.Proofs.Try.underlying5 (u64_u8 _) ?_
      refine W_bslice_sl encB [_] rfl Go.Proofs.Try.underlying25 Ty.cells5 Ty.zero5 rfl rfl rfl (fun _ => rfl) rfl rfl rfl ?_
      intro u8 w8 hsz8 hB8 hx8
      replace hL := hL.call hB8
      replace hO := hO.call hB8
      refine W_append rfl Go.Proofs.Try.underlying25 Ty.row5 rfl (by decide) rfl rfl hO hx8 (encB_one _) (by simp [maxLen]; omega) (by simp; omega) (by omega) ?_
      intro v9 w9 hN9 hG9 _
      have hZ9 := hG9.size
      replace hL := hL.grown0 hG9 hO (by omega)
      replace hO := hN9; clear hN9 hG9
      refine W_assign rfl rfl ?_
      refine W_nil ?_
      refine N_block ?_
      refine N_code ?_
      refine C_region ?_
      refine W_move rfl rfl ?_
      refine W_subi rfl rfl rfl (i64_id (by omega) (by omega)) ?_
      refine W_assign rfl rfl ?_
      refine W_nil ?_
      exact N_again (j + 1, _) ⟨by rw [range_snoc, ← List.append_assoc]; exact hO, hL, by omega, by show j + 1 ≤ 8; omega⟩ ⟨rfl, rfl, look_int rfl (by show (7 - (j : Int) - 1) = 7 - ((j + 1 : Nat) : Int); omega), trivial⟩ (by show 8 - (j + 1) < 8 - j; omega)
    · have hc24 := of_decide_eq_false hc24
      refine C_exit _ rfl ?_
      refine N_code ?_
      refine C_seq ?_
      refine C_region ?_
      refine W_move rfl rfl ?_
      refine W_assign rfl rfl ?_
      refine W_nil ?_
      refine N_code ?_
      refine C_ret rfl rfl ?_
      have hj8 : j = 8 := by omega
      subst hj8
      exact ⟨hO.sl, hL.below⟩

theorem twin_ret (bs : List UInt8) (vb : Value) (w : World) (lo hi : Nat) (hb : Sl lo hi w.heap 1 encB vb bs) (hlen : bs.length ≤ 1000000000) (hhi : hi ≤ w.heap.size) : Ret Try.prog 36 #[vb] w fun v w' => Ow w' w.heap.size 5 1 encB v bs ∧ Below w.heap.size w w' := by
  refine Ret_of (args := [vb]) Try.func36 rfl rfl ?_
  change C _ _ _ _ [(0, vb)] _
  have hL := Led.nil w
  refine C_seq ?_
  refine C_region ?_
  refine W_assign rfl rfl ?_
  refine W_nil ?_
  refine N_code ?_
  refine C_seq ?_
  refine C_region ?_
  refine W_assign rfl rfl ?_
  have hO := Ow.nil w w.heap.size 5 1 encB (fun _ => rfl)
  refine W_nil ?_
  refine N_code ?_
  refine C_seq ?_
  refine C_region ?_
  refine W_move rfl rfl ?_
  refine W_move rfl rfl ?_
  refine W_append rfl Go.Proofs.Try.underlying25 Ty.row5 rfl (by decide) rfl rfl hO hb (encB_one _) (by simp [maxLen]; omega) (by simp; omega) (by omega) ?_
  intro v1 w1 hN1 hG1 _
  have hZ1 := hG1.size
  replace hb := hb.grown hG1 hO (by constructor <;> omega)
  replace hL := hL.grown0 hG1 hO (by omega)
  replace hO := hN1; clear hN1 hG1
  refine W_assign rfl rfl ?_
  refine W_nil ?_
  refine N_code ?_
  refine C_ret rfl rfl ?_
  exact ⟨hO, hL.below⟩

theorem bytes_ret (xs ys : List UInt8) (va vb : Value) (w : World) (lo hi lo2 hi2 : Nat) (ha : Sl lo hi w.heap 1 encB va xs) (hb : Sl lo2 hi2 w.heap 1 encB vb ys) (hlen : xs.length ≤ 1000000000) : Ret Try.prog 28 #[va, vb] w fun v w' => v = .bool (decide (xs = ys)) ∧ Below w.heap.size w w' := by
  refine Ret_of (args := [va, vb]) Try.func28 rfl rfl ?_
  change C _ _ _ _ [(0, va), (1, vb)] _
  refine C_seq ?_
  refine C_region ?_
  refine W_assign rfl rfl ?_
  refine W_nil ?_
  refine N_code ?_
  refine C_seq ?_
  refine C_seq ?_
  refine C_region ?_
  refine W_move rfl rfl ?_
  refine W_len_sl rfl Go.Proofs.Try.underlying25 rfl ha ?_
  refine W_move rfl rfl ?_
  refine W_len_sl rfl Go.Proofs.Try.underlying25 rfl hb ?_
  refine W_neq rfl rfl rfl ?_
  refine W_nil ?_
  refine N_code ?_
  refine C_cond rfl (fun hc10 => ?_) (fun hc10 => ?_)
  · have hc10 := of_decide_eq_true hc10
    refine C_seq ?_
    refine C_region ?_
    refine W_assign rfl rfl ?_
    refine W_nil ?_
    refine N_code ?_
    refine C_ret rfl rfl ?_
    refine ⟨?_, Below.refl _ _⟩
    have : ¬ xs = ys := fun h => hc10 (by rw [h])
    simp [asOne, this]
  · have hc10 := of_decide_eq_false hc10
    have hll : xs.length = ys.length := by omega
    refine C_skip ?_
    refine N_code ?_
    refine C_seq ?_
    refine C_seq ?_
    refine C_region ?_
    refine W_assign rfl rfl ?_
    refine W_nil ?_
    refine N_code ?_
    refine C_block ?_
    refine C_loop (fun (x : Nat) wr => x ≤ xs.length ∧ xs.take x = ys.take x ∧ Below w.heap.size w wr ∧ Sl lo hi wr.heap 1 encB va xs ∧ Sl lo2 hi2 wr.heap 1 encB vb ys) (fun x => [(0, va), (1, vb), (5, .int .i64 (x : Int))]) (fun x => xs.length - x) (0) ?_ ?_ ?_
    · exact ⟨by omega, by simp, Below.refl _ _, ha, hb⟩
    · exact ⟨rfl, rfl, rfl, trivial⟩
    rintro x w1 ⟨hx, htk, hBe, ha, hb⟩
    refine C_seq ?_
    refine C_seq ?_
    refine C_region ?_
    refine W_move rfl rfl ?_
    refine W_move rfl rfl ?_
    refine W_len_sl rfl Go.Proofs.Try.underlying25 rfl ha ?_
    refine W_lss rfl rfl rfl ?_
    refine W_nil ?_
    refine N_code ?_
    refine C_cond rfl (fun hc14 => ?_) (fun hc14 => ?_)
    · have hc14 := of_decide_eq_true hc14
      refine C_skip ?_
      refine N_code ?_
      refine C_seq ?_
      refine C_block ?_
      refine C_seq ?_
      apply C_draw 9 [[], [], [0, 1], [2], [], [], [4, 5], [6], [3, 7]] [.val _, .val _, .val _, .val _, .val _, .val _, .val _, .val _, .val _] Ty.mixed rfl rfl (by kernel_rfl) (by kernel_rfl) rfl
      · refine ⟨?_, ?_, ?_, ?_, ?_, ?_, ?_, ?_, ?_,  trivial⟩
        · intro w2 vq hB2 hH
          have ha := ha.ext hB2
          have hb := hb.ext hB2
          refine W_move rfl rfl ?_
          refine W_nil ?_
          exact N_step rfl rfl (by first | exact Below.refl _ _ | assumption)
        · intro w3 vq hB3 hH
          have ha := ha.ext hB3
          have hb := hb.ext hB3
          refine W_move rfl rfl ?_
          refine W_nil ?_
          exact N_step rfl rfl (by first | exact Below.refl _ _ | assumption)
        · intro w4 vq hB4 hH
          have ha := ha.ext hB4
          have hb := hb.ext hB4
          refine W_index _ rfl Go.Proofs.Try.underlying25 Ty.cells5 Ty.info5 rfl rfl ha rfl (by omega) ?_
          refine W_nil ?_
          exact N_step rfl rfl (by first | exact Below.refl _ _ | assumption)
        · intro w5 vq hB5 hH
          have ha := ha.ext hB5
          have hb := hb.ext hB5
          refine W_load1 _ 0 rfl Ty.cell5 rfl ha rfl (List.getElem?_eq_getElem (by omega)) rfl ?_
          refine W_nil ?_
          exact N_step rfl rfl (by first | exact Below.refl _ _ | assumption)
        · intro w6 vq hB6 hH
          have ha := ha.ext hB6
          have hb := hb.ext hB6
          refine W_move rfl rfl ?_
          refine W_nil ?_
          exact N_step rfl rfl (by first | exact Below.refl _ _ | assumption)
        · intro w7 vq hB7 hH
          have ha := ha.ext hB7
          have hb := hb.ext hB7
          refine W_move rfl rfl ?_
          refine W_nil ?_
          exact N_step rfl rfl (by first | exact Below.refl _ _ | assumption)
        · intro w8 vq hB8 hH
          have ha := ha.ext hB8
          have hb := hb.ext hB8
          refine W_index _ rfl Go.Proofs.Try.underlying25 Ty.cells5 Ty.info5 rfl rfl hb rfl (by omega) ?_
          refine W_nil ?_
          exact N_step rfl rfl (by first | exact Below.refl _ _ | assumption)
        · intro w9 vq hB9 hH
          have ha := ha.ext hB9
          have hb := hb.ext hB9
          refine W_load1 _ 0 rfl Ty.cell5 rfl hb rfl (List.getElem?_eq_getElem (by omega)) rfl ?_
          refine W_nil ?_
          exact N_step rfl rfl (by first | exact Below.refl _ _ | assumption)
        · intro w10 vq hB10 hH
          have ha := ha.ext hB10
          have hb := hb.ext hB10
          refine W_neq rfl rfl rfl ?_
          refine W_nil ?_
          exact N_step rfl rfl (by first | exact Below.refl _ _ | assumption)
      intro w11 vq hB11 hH
      have hq11 := hB11.size
      clear hH
      replace ha := ha.ext hB11
      replace hb := hb.ext hB11
      replace hBe := hBe.trans (hB11.mono hBe.size)
      refine W_nil ?_
      refine N_code ?_
      refine C_cond rfl (fun hc25 => ?_) (fun hc25 => ?_)
      · have hc25 : ¬ xs[x]'(by omega) = ys[x]'(by omega) := fun h => of_decide_eq_true hc25 (by rw [h])
        refine C_seq ?_
        refine C_region ?_
        refine W_assign rfl rfl ?_
        refine W_nil ?_
        refine N_code ?_
        refine C_ret rfl rfl ?_
        refine ⟨?_, hBe⟩
        have : ¬ xs = ys := fun h => by subst h; exact hc25 rfl
        simp [asOne, this]
      · have hc25 : xs[x]'(by omega) = ys[x]'(by omega) := u8_eq (by simpa using hc25)
        refine C_skip ?_
        refine N_block ?_
        refine N_code ?_
        refine C_region ?_
        refine W_move rfl rfl ?_
        refine W_add rfl rfl rfl (i64_id (by omega) (by omega)) ?_
        refine W_assign rfl rfl ?_
        refine W_nil ?_
        exact N_again (x + 1) ⟨by omega, take_eq_succ htk (by omega) (by omega) (fun h => h hc25), hBe, ha, hb⟩ ⟨rfl, rfl, look_int rfl (by omega), trivial⟩ (by omega)
    · have hc14 := of_decide_eq_false hc14
      refine C_exit _ rfl ?_
      refine N_code ?_
      refine C_seq ?_
      refine C_region ?_
      refine W_assign rfl rfl ?_
      refine W_nil ?_
      refine N_code ?_
      refine C_ret rfl rfl ?_
      refine ⟨?_, hBe⟩
      have hxl : x = xs.length := by omega
      subst hxl
      rw [List.take_length, hll, List.take_length] at htk
      simp [asOne, htk]

theorem rows_ret (xs ys : List (List UInt8)) (us vs : List Value) (va vb : Value) (w : World) (lo hi lo2 hi2 : Nat) (hA : Rw lo hi w.heap va us xs) (hB : Rw lo2 hi2 w.heap vb vs ys) (hmax : xs.length ≤ 1000000000) (hall : ∀ x ∈ xs, x.length ≤ 1000000000) : Ret Try.prog 42 #[va, vb] w fun v w' => v = .bool (decide (xs = ys)) ∧ Below w.heap.size w w' := by
  refine Ret_of (args := [va, vb]) Try.func42 rfl rfl ?_
  change C _ _ _ _ [(0, va), (1, vb)] _
  have hla := hA.len
  have hlb := hB.len
  refine C_seq ?_
  refine C_region ?_
  refine W_assign rfl rfl ?_
  refine W_nil ?_
  refine N_code ?_
  refine C_seq ?_
  refine C_seq ?_
  refine C_region ?_
  refine W_move rfl rfl ?_
  refine W_len_sl rfl Go.Proofs.Try.underlying52 rfl hA.out ?_
  refine W_move rfl rfl ?_
  refine W_len_sl rfl Go.Proofs.Try.underlying52 rfl hB.out ?_
  refine W_neq rfl rfl rfl ?_
  refine W_nil ?_
  refine N_code ?_
  refine C_cond rfl (fun hc10 => ?_) (fun hc10 => ?_)
  · have hc10 := of_decide_eq_true hc10
    refine C_seq ?_
    refine C_region ?_
    refine W_assign rfl rfl ?_
    refine W_nil ?_
    refine N_code ?_
    refine C_ret rfl rfl ?_
    refine ⟨?_, Below.refl _ _⟩
    have : ¬ xs = ys := fun h => hc10 (by rw [hla, hlb, h])
    simp [asOne, this]
  · have hc10 := of_decide_eq_false hc10
    have hll : xs.length = ys.length := by omega
    refine C_skip ?_
    refine N_code ?_
    refine C_seq ?_
    refine C_seq ?_
    refine C_region ?_
    refine W_assign rfl rfl ?_
    refine W_nil ?_
    refine N_code ?_
    refine C_block ?_
    refine C_loop (fun (x : Nat) wr => x ≤ xs.length ∧ xs.take x = ys.take x ∧ Below w.heap.size w wr ∧ Rw lo hi wr.heap va us xs ∧ Rw lo2 hi2 wr.heap vb vs ys) (fun x => [(0, va), (1, vb), (5, .int .i64 (x : Int))]) (fun x => xs.length - x) (0) ?_ ?_ ?_
    · exact ⟨by omega, by simp, Below.refl _ _, hA, hB⟩
    · exact ⟨rfl, rfl, rfl, trivial⟩
    rintro x w1 ⟨hx, htk, hBe, hA, hB⟩
    refine C_seq ?_
    refine C_seq ?_
    refine C_region ?_
    refine W_move rfl rfl ?_
    refine W_move rfl rfl ?_
    refine W_len_sl rfl Go.Proofs.Try.underlying52 rfl hA.out ?_
    refine W_lss rfl rfl rfl ?_
    refine W_nil ?_
    refine N_code ?_
    refine C_cond rfl (fun hc14 => ?_) (fun hc14 => ?_)
    · have hc14 := of_decide_eq_true hc14
      refine C_skip ?_
      refine N_code ?_
      refine C_seq ?_
      refine C_block ?_
      refine C_seq ?_
      apply C_draw 10 [[], [], [0, 1], [2], [], [], [4, 5], [6], [3, 7], [8]] [.val _, .val _, .val _, .val _, .val _, .val _, .val _, .val _, .val _, .val _] Ty.mixed rfl rfl (by kernel_rfl) (by kernel_rfl) rfl
      · refine ⟨?_, ?_, ?_, ?_, ?_, ?_, ?_, ?_, ?_, ?_,  trivial⟩
        · intro w2 vq hB2 hH
          have hA := hA.call hB2
          have hB := hB.call hB2
          refine W_move rfl rfl ?_
          refine W_nil ?_
          exact N_step rfl rfl (by first | exact Below.refl _ _ | assumption)
        · intro w3 vq hB3 hH
          have hA := hA.call hB3
          have hB := hB.call hB3
          refine W_move rfl rfl ?_
          refine W_nil ?_
          exact N_step rfl rfl (by first | exact Below.refl _ _ | assumption)
        · intro w4 vq hB4 hH
          have hA := hA.call hB4
          have hB := hB.call hB4
          refine W_index _ rfl Go.Proofs.Try.underlying52 Ty.cells25 Ty.info25 rfl rfl hA.out rfl (by omega) ?_
          refine W_nil ?_
          exact N_step rfl rfl (by first | exact Below.refl _ _ | assumption)
        · intro w5 vq hB5 hH
          have hA := hA.call hB5
          have hB := hB.call hB5
          refine W_load1 _ 0 rfl Ty.cell25 rfl hA.out rfl (List.getElem?_eq_getElem (by omega)) rfl ?_
          refine W_nil ?_
          exact N_step rfl rfl (by first | exact Below.refl _ _ | assumption)
        · intro w6 vq hB6 hH
          have hA := hA.call hB6
          have hB := hB.call hB6
          refine W_move rfl rfl ?_
          refine W_nil ?_
          exact N_step rfl rfl (by first | exact Below.refl _ _ | assumption)
        · intro w7 vq hB7 hH
          have hA := hA.call hB7
          have hB := hB.call hB7
          refine W_move rfl rfl ?_
          refine W_nil ?_
          exact N_step rfl rfl (by first | exact Below.refl _ _ | assumption)
        · intro w8 vq hB8 hH
          have hA := hA.call hB8
          have hB := hB.call hB8
          refine W_index _ rfl Go.Proofs.Try.underlying52 Ty.cells25 Ty.info25 rfl rfl hB.out rfl (by omega) ?_
          refine W_nil ?_
          exact N_step rfl rfl (by first | exact Below.refl _ _ | assumption)
        · intro w9 vq hB9 hH
          have hA := hA.call hB9
          have hB := hB.call hB9
          refine W_load1 _ 0 rfl Ty.cell25 rfl hB.out rfl (List.getElem?_eq_getElem (by omega)) rfl ?_
          refine W_nil ?_
          exact N_step rfl rfl (by first | exact Below.refl _ _ | assumption)
        · intro w10 vq hB10 hH
          have hA := hA.call hB10
          have hB := hB.call hB10
          refine W_call rfl Ty.named28 rfl (bytes_ret (xs[x]'(by omega)) (ys[x]'(by omega)) _ _ _ _ _ _ _ (hA.at_ x (by omega)) (hB.at_ x (by omega)) (hall _ (List.getElem_mem _))) ?_
          rintro v w11 ⟨rfl, hB11⟩
          replace hA := hA.call hB11
          replace hB := hB.call hB11
          have hq11 := hB11.size
          refine W_nil ?_
          exact N_step rfl rfl (by first | exact Below.refl _ _ | assumption)
        · intro w12 vq hB12 hH
          have hA := hA.call hB12
          have hB := hB.call hB12
          refine W_not rfl rfl ?_
          refine W_nil ?_
          exact N_step rfl rfl (by first | exact Below.refl _ _ | assumption)
      intro w13 vq hB13 hH
      have hq13 := hB13.size
      clear hH
      replace hA := hA.call hB13
      replace hB := hB.call hB13
      replace hBe := hBe.trans (hB13.mono hBe.size)
      refine W_nil ?_
      refine N_code ?_
      refine C_cond rfl (fun hc26 => ?_) (fun hc26 => ?_)
      · have hc26 : ¬ xs[x]'(by omega) = ys[x]'(by omega) := by simpa using hc26
        refine C_seq ?_
        refine C_region ?_
        refine W_assign rfl rfl ?_
        refine W_nil ?_
        refine N_code ?_
        refine C_ret rfl rfl ?_
        refine ⟨?_, hBe⟩
        have : ¬ xs = ys := fun h => by subst h; exact hc26 rfl
        simp [asOne, this]
      · have hc26 : xs[x]'(by omega) = ys[x]'(by omega) := by simpa using hc26
        refine C_skip ?_
        refine N_block ?_
        refine N_code ?_
        refine C_region ?_
        refine W_move rfl rfl ?_
        refine W_add rfl rfl rfl (i64_id (by omega) (by omega)) ?_
        refine W_assign rfl rfl ?_
        refine W_nil ?_
        exact N_again (x + 1) ⟨by omega, take_eq_succ htk (by omega) (by omega) (fun h => h hc26), hBe, hA, hB⟩ ⟨rfl, rfl, look_int rfl (by omega), trivial⟩ (by omega)
    · have hc14 := of_decide_eq_false hc14
      refine C_exit _ rfl ?_
      refine N_code ?_
      refine C_seq ?_
      refine C_region ?_
      refine W_assign rfl rfl ?_
      refine W_nil ?_
      refine N_code ?_
      refine C_ret rfl rfl ?_
      refine ⟨?_, hBe⟩
      have hxl : x = xs.length := by omega
      subst hxl
      rw [List.take_length, hll, List.take_length] at htk
      simp [asOne, htk]

theorem twinRows_ret (bss : List (List UInt8)) (vs : List Value) (vb : Value) (w : World) (lo hi : Nat) (hR : Rw lo hi w.heap vb vs bss) (hhi : hi ≤ w.heap.size) (hmax : bss.length ≤ 1000000000) (hall : ∀ x ∈ bss, x.length ≤ 1000000000) : Ret Try.prog 40 #[vb] w fun v w' => (∃ us, RwO w.heap.size 25 5 w' v us bss) ∧ Below w.heap.size w w' := by
  refine Ret_of (args := [vb]) Try.func40 rfl rfl ?_
  change C _ _ _ _ [(0, vb)] _
  have hL := Led.nil w
  have hlen := hR.len
  refine C_seq ?_
  refine C_region ?_
  refine W_assign rfl rfl ?_
  refine W_nil ?_
  refine N_code ?_
  refine C_seq ?_
  refine C_region ?_
  refine W_assign rfl rfl ?_
  have hO := Ow.nil w w.heap.size 25 1 encV (fun _ => rfl)
  refine W_nil ?_
  refine N_code ?_
  refine C_seq ?_
  refine C_seq ?_
  refine C_region ?_
  refine W_assign rfl rfl ?_
  refine W_nil ?_
  refine N_code ?_
  refine C_block ?_
  refine C_loop (fun (x : Nat × Value × List Value) wr => RwO w.heap.size 25 5 wr x.2.1 x.2.2 (bss.take x.1) ∧ Led w.heap.size w wr [] ∧ w.heap.size ≤ wr.heap.size ∧ Rw lo hi wr.heap vb vs bss ∧ x.1 ≤ bss.length) (fun x => [(0, vb), (3, x.2.1), (4, .int .i64 (x.1 : Int))]) (fun x => bss.length - x.1) (0, .slice none 0 0, []) ?_ ?_ ?_
  · exact ⟨RwO.nil _ _ _ _, hL, by omega, hR, by omega⟩
  · exact ⟨rfl, rfl, rfl, trivial⟩
  rintro ⟨j, vo, us⟩ w1 ⟨hP, hL, hq0, hR, hj⟩
  simp only at hP hj
  have hO := hP.ow
  have hus := hP.len
  rw [List.length_take] at hus
  refine C_seq ?_
  refine C_seq ?_
  refine C_region ?_
  refine W_move rfl rfl ?_
  refine W_move rfl rfl ?_
  refine W_len_sl rfl Go.Proofs.Try.underlying52 rfl hR.out ?_
  refine W_lss rfl rfl rfl ?_
  refine W_nil ?_
  refine N_code ?_
  refine C_cond rfl (fun hc8 => ?_) (fun hc8 => ?_)
  · have hc8 := of_decide_eq_true hc8
    refine C_skip ?_
    refine N_code ?_
    refine C_seq ?_
    refine C_block ?_
    refine C_region ?_
    refine W_move rfl rfl ?_
    refine W_move rfl rfl ?_
    refine W_move rfl rfl ?_
    refine W_index j rfl Go.Proofs.Try.underlying52 Ty.cells25 Ty.info25 rfl rfl hR.out rfl (by omega) ?_
    refine W_load1 _ 0 rfl Ty.cell25 rfl hR.out rfl (List.getElem?_eq_getElem (by omega)) rfl ?_
    refine W_call rfl Ty.named36 rfl (twin_ret (bss[j]'(by omega)) _ _ _ _ (hR.at_ j (by omega)) (hall _ (List.getElem_mem _)) (by omega)) ?_
    rintro z2 w2 ⟨hT, hB2⟩
    replace hL := hL.call hB2
    replace hO := hO.call hB2
    replace hR := hR.call hB2
    replace hP := hP.call hB2
    have hq2 := hB2.size
    refine W_bslice_sl encV [_] rfl Go.Proofs.Try.underlying52 Ty.cells25 Ty.zero25 rfl rfl rfl (fun _ => rfl) rfl rfl (one_cons hT.one one_nil) ?_
    intro u3 w3 hsz3 hB3 hx3
    replace hL := hL.call hB3
    replace hO := hO.call hB3
    replace hR := hR.call hB3
    replace hP := hP.call hB3
    replace hT := hT.call hB3
    have hS := hT.sl.widen (show w.heap.size ≤ _ by omega) (Nat.le_refl _)
    have hE := hT.elm
    refine W_append rfl Go.Proofs.Try.underlying52 Ty.row25 rfl (by decide) rfl rfl hO hx3 (encV_one (one_cons hT.one one_nil)) (by simp only [maxLen, List.length_cons, List.length_nil]; omega) (by simp only [List.length_cons, List.length_nil]; omega) (by omega) ?_
    intro v4 w4 hN4 hG4 _
    have hZ4 := hG4.size
    replace hL := hL.grown0 hG4 hO (by omega)
    replace hR := hR.grown hG4 hO (by constructor <;> omega)
    replace hP := hP.append (by rfl) hS hE hN4 hG4
    replace hO := hN4; clear hN4 hG4
    refine W_assign rfl rfl ?_
    refine W_nil ?_
    refine N_block ?_
    refine N_code ?_
    refine C_region ?_
    refine W_move rfl rfl ?_
    refine W_add rfl rfl rfl (i64_id (by omega) (by omega)) ?_
    refine W_assign rfl rfl ?_
    refine W_nil ?_
    exact N_again (j + 1, _, us ++ [_]) ⟨by rw [List.take_succ_eq_append_getElem (show j < bss.length by omega)]; exact hP, hL, by omega, hR, by show j + 1 ≤ bss.length; omega⟩ ⟨rfl, rfl, look_int rfl (by show (j : Int) + 1 = ((j + 1 : Nat) : Int); omega), trivial⟩ (by show bss.length - (j + 1) < bss.length - j; omega)
  · have hc8 := of_decide_eq_false hc8
    refine C_exit _ rfl ?_
    refine N_code ?_
    refine C_seq ?_
    refine C_region ?_
    refine W_move rfl rfl ?_
    refine W_assign rfl rfl ?_
    refine W_nil ?_
    refine N_code ?_
    refine C_ret rfl rfl ?_
    have hjl : j = bss.length := by omega
    subst hjl
    rw [List.take_length] at hP
    exact ⟨⟨us, hP⟩, hL.below⟩

end Go.Wk.Sha
