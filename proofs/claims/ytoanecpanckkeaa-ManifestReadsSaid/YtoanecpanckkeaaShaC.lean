import Derived.Test.YtoanecpanckkeaaShaB
namespace Go.Wk.Sha
open Go.Proofs Go.RowKit
set_option linter.unusedVariables false

def K256 : List UInt32 := [0x428a2f98, 0x71374491, 0xb5c0fbcf, 0xe9b5dba5, 0x3956c25b, 0x59f111f1, 0x923f82a4, 0xab1c5ed5, 0xd807aa98, 0x12835b01, 0x243185be, 0x550c7dc3, 0x72be5d74, 0x80deb1fe, 0x9bdc06a7, 0xc19bf174, 0xe49b69c1, 0xefbe4786, 0x0fc19dc6, 0x240ca1cc, 0x2de92c6f, 0x4a7484aa, 0x5cb0a9dc, 0x76f988da, 0x983e5152, 0xa831c66d, 0xb00327c8, 0xbf597fc7, 0xc6e00bf3, 0xd5a79147, 0x06ca6351, 0x14292967, 0x27b70a85, 0x2e1b2138, 0x4d2c6dfc, 0x53380d13, 0x650a7354, 0x766a0abb, 0x81c2c92e, 0x92722c85, 0xa2bfe8a1, 0xa81a664b, 0xc24b8b70, 0xc76c51a3, 0xd192e819, 0xd6990624, 0xf40e3585, 0x106aa070, 0x19a4c116, 0x1e376c08, 0x2748774c, 0x34b0bcb5, 0x391c0cb3, 0x4ed8aa4a, 0x5b9cca4f, 0x682e6ff3, 0x748f82ee, 0x78a5636f, 0x84c87814, 0x8cc70208, 0x90befffa, 0xa4506ceb, 0xbef9a3f7, 0xc67178f2]
theorem K256_len : K256.length = 64 := rfl
def rotr (x : UInt32) (c : Nat) : UInt32 := x <<< UInt32.ofNat (32 - c) ||| x >>> UInt32.ofNat c
theorem rot_conv (c : Nat) (k : Int) (hk : k = -(c : Int)) (h1 : 1 ≤ c) (h2 : c ≤ 31) : IntKind.u64.wrap k = ((18446744073709551616 - c : Nat) : Int) := by
  subst hk; rw [u64_wrap]; omega
theorem rot_and0 : ∀ c, c < 32 → 1 ≤ c → bits .and .u64 ((18446744073709551616 - c : Nat) : Int) 31 = ((32 - c : Nat) : Int) := by decide +kernel
theorem rot_and (c : Nat) (h1 : 1 ≤ c) (h2 : c ≤ 31) : bits .and .u64 ((18446744073709551616 - c : Nat) : Int) 31 = ((32 - c : Nat) : Int) := rot_and0 c (by omega) h1

theorem rotl_ret (c : Nat) (k : Int) (x : UInt32) (w : World) (hk : k = -(c : Int)) (h1 : 1 ≤ c) (h2 : c ≤ 31) : Ret Try.prog 75 #[.int .u32 (x.toNat : Int), .int .i64 k] w fun v w' => v = .int .u32 ((rotr x c).toNat : Int) ∧ w = w' := by
  refine Ret_of (args := [.int .u32 (x.toNat : Int), .int .i64 k]) Try.func75 rfl rfl ?_
  change C _ _ _ _ [(0, .int .u32 (x.toNat : Int)), (1, .int .i64 k)] _
  refine C_seq ?_
  refine C_region ?_
  refine W_assign rfl rfl ?_
  refine W_nil ?_
  refine N_code ?_
  refine C_seq ?_
  refine C_region ?_
  refine W_move rfl rfl ?_
  refine W_conv rfl rfl Ty.some3 Go.Proofs.Try.underlying24 (rot_conv c k hk h1 h2) ?_
  refine W_bits (by simp) rfl rfl rfl (rot_and c h1 h2) ?_
  refine W_assign rfl rfl ?_
  refine W_nil ?_
  refine N_code ?_
  refine C_seq ?_
  refine C_region ?_
  refine W_move rfl rfl ?_
  refine W_move rfl rfl ?_
  refine W_shl rfl rfl rfl (by omega) (by simp only [IntKind.bits]; omega) (u32_shl _ _ (32 - c) (by omega) (by omega)) ?_
  refine W_move rfl rfl ?_
  refine W_move rfl rfl ?_
  refine W_subi rfl rfl rfl (IntWalk.u64_in _ (by omega)) ?_
  refine W_shr rfl rfl rfl (by omega) (by simp only [IntKind.bits]; omega) (u32_shr _ _ c (by omega) (by omega)) ?_
  refine W_bits (by simp) rfl rfl rfl (u32_or _ _) ?_
  refine W_assign rfl rfl ?_
  refine W_nil ?_
  refine N_code ?_
  refine C_ret rfl rfl ?_
  exact ⟨rfl, rfl⟩

theorem rot32_ret (c : Nat) (n : Int) (x : UInt32) (w : World) (hn : n = (c : Int)) (h1 : 1 ≤ c) (h2 : c ≤ 31) : Ret Try.prog 103 #[.int .u32 (x.toNat : Int), .int .u64 n] w fun v w' => v = .int .u32 ((rotr x c).toNat : Int) ∧ w = w' := by
  refine Ret_of (args := [.int .u32 (x.toNat : Int), .int .u64 n]) Try.func103 rfl rfl ?_
  change C _ _ _ _ [(0, .int .u32 (x.toNat : Int)), (1, .int .u64 n)] _
  refine C_seq ?_
  refine C_region ?_
  refine W_assign rfl rfl ?_
  refine W_nil ?_
  refine N_code ?_
  refine C_seq ?_
  refine C_region ?_
  refine W_move rfl rfl ?_
  refine W_move rfl rfl ?_
  refine W_shr rfl rfl rfl (by omega) (by simp only [IntKind.bits]; omega) (u32_shr _ _ c (by omega) (by omega)) ?_
  refine W_move rfl rfl ?_
  refine W_move rfl rfl ?_
  refine W_subi rfl rfl rfl (IntWalk.u64_in _ (by omega)) ?_
  refine W_shl rfl rfl rfl (by omega) (by simp only [IntKind.bits]; omega) (u32_shl _ _ (32 - c) (by omega) (by omega)) ?_
  refine W_bits (by simp) rfl rfl rfl (u32_or _ _) ?_
  refine W_assign rfl rfl ?_
  refine W_nil ?_
  refine N_code ?_
  refine C_ret rfl rfl ?_
  exact ⟨by rw [UInt32.or_comm]; rfl, rfl⟩

theorem rounds_ret (w : World) : Ret Try.prog 72 #[] w fun v w' => Sl w.heap.size w'.heap.size w'.heap 1 encW v K256 ∧ Below w.heap.size w w' := by
  refine Ret_of (args := []) Try.func72 rfl rfl ?_
  change C _ _ _ _ [] _
  refine C_seq ?_
  refine C_region ?_
  refine W_assign rfl rfl ?_
  refine W_nil ?_
  refine N_code ?_
  refine C_seq ?_
  refine C_region ?_
  refine W_bslice_sl encW K256 rfl Go.Proofs.Try.underlying96 Ty.cells94 Ty.zero94 rfl rfl rfl (fun _ => rfl) rfl rfl rfl ?_
  intro u1 w1 hsz1 hB1 hx1
  refine W_assign rfl rfl ?_
  refine W_nil ?_
  refine N_code ?_
  refine C_ret rfl rfl ?_
  exact ⟨by assumption, by assumption⟩

theorem k256_ret (w : World) : Ret Try.prog 101 #[] w fun v w' => v = .agg (K256.map cW).toArray ∧ Below w.heap.size w w' := by
  refine Ret_of (args := []) Try.func101 rfl rfl ?_
  change C _ _ _ _ [] _
  have hL := Led.nil w
  refine C_seq ?_
  refine C_region ?_
  refine W_alloc rfl Ty.zero98 ?_
  intro g1 w1 hg1 hsz1 hB1 hb1
  replace hL := hL.cons hB1 (by omega) (by omega) hb1
  refine W_nil ?_
  refine N_code ?_
  refine C_seq ?_
  refine C_region ?_
  refine W_build_arr rfl Go.Proofs.Try.underlying98 Ty.cells94 Ty.info94 Ty.zero98 rfl rfl rfl rfl ?_
  refine W_store_all 0 rfl rfl hL rfl Ty.size98 (by first | exact oneW _ | exact oneB _ | exact fun u hu => (oneCells_spec _ rfl u hu).2) (by first | rfl | simp) ?_
  intro w2 hU2 hL
  have hu2 := hU2.size
  refine W_nil ?_
  refine N_code ?_
  refine C_ret_cell 0 rfl rfl hL rfl Go.Proofs.Try.underlying98 rfl Ty.size98 ?_
  exact ⟨rfl, hL.below⟩

end Go.Wk.Sha
