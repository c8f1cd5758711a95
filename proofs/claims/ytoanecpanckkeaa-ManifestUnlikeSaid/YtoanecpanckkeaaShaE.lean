import Derived.Test.YtoanecpanckkeaaShaD
namespace Go.Wk.Sha
open Go.Proofs Go.RowKit
set_option linter.unusedVariables false

def wordAt (p : List UInt8) (i : Nat) : UInt32 := (hiL ((p.take (4 * i + 4)).drop (4 * i))).toUInt32
def sg0 (x : UInt32) : UInt32 := rotr x 7 ^^^ rotr x 18 ^^^ x >>> UInt32.ofNat 3
def sg1 (x : UInt32) : UInt32 := rotr x 17 ^^^ rotr x 19 ^^^ x >>> UInt32.ofNat 10
def nextW (ws : List UInt32) (i : Nat) : UInt32 := ws.getD (i - 16) 0 + sg0 (ws.getD (i - 15) 0) + ws.getD (i - 7) 0 + sg1 (ws.getD (i - 2) 0)
def sched (p : List UInt8) : Nat → List UInt32
  | 0 => []
  | i + 1 => sched p i ++ [if i < 16 then wordAt p i else nextW (sched p i) i]
theorem sched_len (p : List UInt8) (i : Nat) : (sched p i).length = i := by
  induction i with
  | zero => rfl
  | succ i ih => simp [sched, ih]
def pads (p : List UInt8) (i : Nat) : List UInt32 := sched p i ++ List.replicate (64 - i) 0
theorem pads_len (p : List UInt8) (i : Nat) (h : i ≤ 64) : (pads p i).length = 64 := by
  simp [pads, sched_len]; omega
theorem pads_get (p : List UInt8) (i j : Nat) (h : j < i) : (pads p i).getD j 0 = (sched p i).getD j 0 := by
  simp only [pads, List.getD_eq_getElem?_getD]
  rw [List.getElem?_append_left (by rw [sched_len]; exact h)]
theorem nextW_pads (p : List UInt8) (i : Nat) (h : 16 ≤ i) : nextW (pads p i) i = nextW (sched p i) i := by
  unfold nextW
  rw [pads_get p i _ (by omega), pads_get p i _ (by omega), pads_get p i _ (by omega), pads_get p i _ (by omega)]
theorem pads_step (p : List UInt8) (i : Nat) (hi : i < 64) (x : UInt32) (hx : x = if i < 16 then wordAt p i else nextW (sched p i) i) : ((pads p i).map cW).set i (cW x) = (pads p (i + 1)).map cW := by
  rw [← List.map_set]
  congr 1
  simp only [pads, sched]
  rw [List.set_append_right _ _ (by rw [sched_len]; omega), sched_len, Nat.sub_self]
  rw [show 64 - i = (64 - (i + 1)) + 1 from by omega, List.replicate_succ, List.set_cons_zero, hx]
  simp
theorem pads_zero (p : List UInt8) : (pads p 0).map cW = (List.replicate 64 (0 : UInt32)).map cW := by simp [pads, sched]
theorem pads_all (p : List UInt8) : pads p 64 = sched p 64 := by simp [pads]
def S1 (e : UInt32) : UInt32 := rotr e 6 ^^^ rotr e 11 ^^^ rotr e 25
def S0 (a : UInt32) : UInt32 := rotr a 2 ^^^ rotr a 13 ^^^ rotr a 22
def one (v : List UInt32) (k w : UInt32) : UInt32 := v.getD 7 0 + S1 (v.getD 4 0) + ((v.getD 4 0 &&& v.getD 5 0) ^^^ (~~~ (v.getD 4 0) &&& v.getD 6 0)) + k + w
def two (v : List UInt32) : UInt32 := S0 (v.getD 0 0) + (((v.getD 0 0 &&& v.getD 1 0) ^^^ (v.getD 0 0 &&& v.getD 2 0)) ^^^ (v.getD 1 0 &&& v.getD 2 0))
def rnd (v : List UInt32) (k w : UInt32) : List UInt32 := [one v k w + two v, v.getD 0 0, v.getD 1 0, v.getD 2 0, v.getD 3 0 + one v k w, v.getD 4 0, v.getD 5 0, v.getD 6 0]
def rnds (ws v0 : List UInt32) : Nat → List UInt32
  | 0 => v0
  | i + 1 => rnd (rnds ws v0 i) (K256.getD i 0) (ws.getD i 0)
theorem rnds_len (ws v0 : List UInt32) (h : v0.length = 8) (i : Nat) : (rnds ws v0 i).length = 8 := by
  cases i with
  | zero => exact h
  | succ i => rfl
def mix (h v : List UInt32) (i : Nat) : List UInt32 := (List.range 8).map fun j => if j < i then h.getD j 0 + v.getD j 0 else h.getD j 0
theorem mix_len (h v : List UInt32) (i : Nat) : (mix h v i).length = 8 := by simp [mix]
theorem mix_zero (h v : List UInt32) (hl : h.length = 8) : mix h v 0 = h := by
  apply List.ext_getElem
  · simp [mix, hl]
  · intro i h1 h2; simp [mix, h2]
theorem mix_get (h v : List UInt32) (i : Nat) (hi : i < 8) : (mix h v i).getD i 0 = h.getD i 0 := by simp [mix, hi]
theorem mix_step (h v : List UInt32) (i : Nat) (hi : i < 8) (x : UInt32) (hx : x = (mix h v i).getD i 0 + v.getD i 0) : ((mix h v i).map cW).set i (cW x) = (mix h v (i + 1)).map cW := by
  rw [← List.map_set]
  congr 1
  rw [mix_get h v i hi] at hx
  subst hx
  apply List.ext_getElem
  · simp [mix]
  · intro j h1 h2
    have hj : j < 8 := by simpa [mix] using h2
    rw [List.getElem_set]
    by_cases hij : i = j
    · subst hij; simp [mix]
    · rw [if_neg hij]
      simp only [mix, List.getElem_map, List.getElem_range]
      by_cases hlt : j < i
      · rw [if_pos hlt, if_pos (by omega)]
      · rw [if_neg hlt, if_neg (by omega)]
def blockL (h : List UInt32) (p : List UInt8) : List UInt32 := mix h (rnds (sched p 64) h 64) 8
def blocks : Nat → List UInt32 → List UInt8 → List UInt32
  | 0, h, _ => h
  | n + 1, h, p => blocks n (blockL h p) (p.drop 64)
def H0 : List UInt32 := [0x6a09e667, 0xbb67ae85, 0x3c6ef372, 0xa54ff53a, 0x510e527f, 0x9b05688c, 0x1f83d9ab, 0x5be0cd19]
def dig (h : List UInt32) (i : Nat) : UInt8 := (h.getD (i / 4) 0 >>> UInt32.ofNat (24 - 8 * (i % 4))).toUInt8
def digs (h : List UInt32) (i : Nat) : List UInt8 := (List.range i).map (dig h) ++ List.replicate (32 - i) 0
theorem digs_len (h : List UInt32) (i : Nat) (hi : i ≤ 32) : (digs h i).length = 32 := by simp [digs]; omega
theorem digs_step (h : List UInt32) (i : Nat) (hi : i < 32) : ((digs h i).map cB).set i (cB (dig h i)) = (digs h (i + 1)).map cB := by
  rw [← List.map_set]
  congr 1
  simp only [digs]
  rw [List.set_append_right _ _ (by simp), List.length_map, List.length_range, Nat.sub_self, range_snoc]
  rw [show 32 - i = (32 - (i + 1)) + 1 from by omega, List.replicate_succ, List.set_cons_zero]
  simp
/-- SHA-256, as a list of 32 bytes -/
def sha256 (bs : List UInt8) : List UInt8 := digs (blocks ((padL bs).length / 64) H0 (padL bs)) 32
theorem sha256_len (bs : List UInt8) : (sha256 bs).length = 32 := digs_len _ _ (by omega)
theorem padL_len (bs : List UInt8) : (padL bs).length = bs.length + 1 + zerosOf bs.length + 8 := by simp [padL]; omega
theorem padL_mod (bs : List UInt8) : (padL bs).length % 64 = 0 := by rw [padL_len]; unfold zerosOf; omega
theorem padL_le (bs : List UInt8) : (padL bs).length ≤ bs.length + 80 := by rw [padL_len]; unfold zerosOf; omega

set_option maxRecDepth 4000 in
theorem sum_ret (bss : List (List UInt8)) (vs : List Value) (vb : Value) (w : World) (lo hi : Nat) (hR : Rw lo hi w.heap vb vs bss) (hhi : hi ≤ w.heap.size) (hsum : bss.flatten.length ≤ 1000000000) (hmax : bss.length ≤ 1000000000) : Ret Try.prog 34 #[vb] w fun v w' => v = .agg ((sha256 bss.flatten).map cB).toArray ∧ Below w.heap.size w w' := by
  refine Ret_of (args := [vb]) Try.func34 rfl rfl ?_
  change C _ _ _ _ [(0, vb)] _
  have hL := Led.nil w
  have hrl := hR.len
  refine C_seq ?_
  refine C_region ?_
  refine W_alloc rfl Ty.zero57 ?_
  intro gr w1 hgr hsz1 hB1 hb1
  replace hR := hR.call hB1
  replace hL := hL.cons hB1 (by omega) (by omega) hb1
  refine W_nil ?_
  refine N_code ?_
  refine C_seq ?_
  refine C_region ?_
  refine W_move rfl rfl ?_
  refine W_call rfl Ty.named71 rfl (concat_ret bss _ _ _ _ _ hR (by omega) hsum hmax) ?_
  rintro z2 w2 ⟨hT, hB2⟩
  replace hT := hT.sl
  replace hR := hR.call hB2
  replace hL := hL.call hB2
  have hq2 := hB2.size
  refine W_assign rfl rfl ?_
  refine W_nil ?_
  refine N_code ?_
  refine C_seq ?_
  refine C_region ?_
  refine W_build_arr rfl Go.Proofs.Try.underlying95 Ty.cells94 Ty.info94 Ty.zero95 rfl rfl rfl rfl ?_
  refine W_alloc rfl Ty.zero95 ?_
  intro gh w3 hgh hsz3 hB3 hb3
  replace hR := hR.call hB3
  replace hL := hL.cons hB3 (by omega) (by omega) hb3
  replace hT := hT.ext hB3
  refine W_store_all 0 rfl rfl hL rfl Ty.size95 (by first | exact oneW _ | exact oneB _ | exact fun u hu => (oneCells_spec _ rfl u hu).2) (by first | rfl | simp) ?_
  intro w4 hU4 hL
  have hu4 := hU4.size
  replace hR := hR.upd hU4 (by omega)
  replace hT := hT.upd hU4 (by omega)
  refine W_nil ?_
  refine N_code ?_
  refine C_seq ?_
  refine C_region ?_
  refine W_call rfl Ty.named72 rfl (rounds_ret _) ?_
  rintro zk w5 ⟨hK, hB5⟩
  replace hR := hR.call hB5
  replace hL := hL.call hB5
  replace hT := hT.ext hB5
  have hq5 := hB5.size
  refine W_assign rfl rfl ?_
  refine W_nil ?_
  refine N_code ?_
  refine C_seq ?_
  refine C_seq ?_
  refine C_region ?_
  refine W_move rfl rfl ?_
  refine W_call rfl Ty.named73 rfl (padded_ret bss.flatten _ _ _ _ hT (by omega) (by omega)) ?_
  rintro zp w6 ⟨hp, hB6⟩
  replace hR := hR.call hB6
  replace hL := hL.call hB6
  replace hT := hT.ext hB6
  replace hK := hK.ext hB6
  have hq6 := hB6.size
  refine W_assign rfl rfl ?_
  refine W_nil ?_
  refine N_code ?_
  refine C_block ?_
  have hpm := padL_mod bss.flatten
  have hple := padL_le bss.flatten
  obtain ⟨plo, phi, hpe, hphi, hghp, hgrp⟩ : ∃ plo phi, Sl plo phi w6.heap 1 encB zp (padL bss.flatten) ∧ phi ≤ w6.heap.size ∧ gh < plo ∧ gr < plo := ⟨_, _, hp, by omega, by omega, by omega⟩
  obtain ⟨klo, khi, hke, hkhi, hghk⟩ : ∃ klo khi, Sl klo khi w6.heap 1 encW zk K256 ∧ khi ≤ w6.heap.size ∧ gh < klo := ⟨_, _, hK, by omega, by omega⟩
  clear hp hK
  have hszE : w.heap.size ≤ w6.heap.size := by omega
  refine C_loop (fun (x : Nat × Value × List UInt32 × List UInt8) wr => Led w.heap.size w wr [(gh, 95, x.2.2.1.map cW), (gr, 57, (List.replicate 32 (0 : UInt8)).map cB)] ∧ Sl plo phi wr.heap 1 encB x.2.1 x.2.2.2 ∧ Sl klo khi wr.heap 1 encW zk K256 ∧ phi ≤ wr.heap.size ∧ khi ≤ wr.heap.size ∧ x.2.2.1.length = 8 ∧ x.2.2.2.length = 64 * x.1 ∧ x.2.2.2.length ≤ 2000000000 ∧ blocks x.1 x.2.2.1 x.2.2.2 = blocks ((padL bss.flatten).length / 64) H0 (padL bss.flatten)) (fun x => [(2, pl gr 0), (4, pl gh 0), (5, zk), (6, x.2.1)]) (fun x => x.1) ((padL bss.flatten).length / 64, zp, H0, padL bss.flatten) ?_ ?_ ?_
  · exact ⟨hL, hpe, hke, hphi, hkhi, rfl, by show (padL bss.flatten).length = 64 * ((padL bss.flatten).length / 64); omega, by show (padL bss.flatten).length ≤ 2000000000; omega, rfl⟩
  · exact ⟨rfl, rfl, rfl, rfl, trivial⟩
  rintro ⟨n, vp, hh, pt⟩ w7 ⟨hL, hp, hK, hphi, hkhi, hhl, hpl, hpm2, hbl⟩
  simp only at hL hp hhl hpl hpm2 hbl
  refine C_seq ?_
  refine C_seq ?_
  refine C_region ?_
  refine W_move rfl rfl ?_
  refine W_len_sl rfl Go.Proofs.Try.underlying25 rfl hp ?_
  refine W_gtr rfl rfl rfl ?_
  refine W_nil ?_
  refine N_code ?_
  refine C_cond rfl (fun hc32 => ?_) (fun hc32 => ?_)
  · have hc32 := of_decide_eq_true hc32
    refine C_skip ?_
    refine N_code ?_
    refine C_seq ?_
    refine C_block ?_
    refine C_seq ?_
    refine C_region ?_
    refine W_alloc rfl Ty.zero98 ?_
    intro gw w8 hgw hsz8 hB8 hb8
    replace hL := hL.cons hB8 (by omega) (by omega) hb8
    replace hp := hp.ext hB8
    replace hK := hK.ext hB8
    refine W_nil ?_
    refine N_code ?_
    refine C_seq ?_
    refine C_seq ?_
    refine C_region ?_
    refine W_move rfl rfl ?_
    refine W_nil ?_
    refine N_code ?_
    refine C_block ?_
    have hgwp : phi ≤ gw := by omega
    have hgwk : khi ≤ gw := by omega
    refine C_loop (fun (x : Nat) wr => Led w.heap.size w wr [(gw, 98, (pads pt x).map cW), (gh, 95, hh.map cW), (gr, 57, (List.replicate 32 (0 : UInt8)).map cB)] ∧ Sl plo phi wr.heap 1 encB vp pt ∧ Sl klo khi wr.heap 1 encW zk K256 ∧ gw < wr.heap.size ∧ x ≤ 64) (fun x => [(2, pl gr 0), (4, pl gh 0), (5, zk), (6, vp), (7, pl gw 0), (35, .int .i64 (x : Int))]) (fun x => 64 - x) (0) ?_ ?_ ?_
    · exact ⟨by rw [pads_zero]; exact hL, hp, hK, by omega, by omega⟩
    · exact ⟨rfl, rfl, rfl, rfl, rfl, rfl, trivial⟩
    rintro i w9 ⟨hL, hp, hK, hgw2, hi⟩
    have hpdl := pads_len pt i hi
    refine C_seq ?_
    refine C_region ?_
    refine W_lss rfl rfl rfl ?_
    refine W_nil ?_
    refine N_code ?_
    refine C_seq ?_
    refine C_cond rfl (fun hc36 => ?_) (fun hc36 => ?_)
    · have hc36 := of_decide_eq_true hc36
      refine C_skip ?_
      refine N_code ?_
      refine C_seq ?_
      refine C_block ?_
      refine C_seq ?_
      refine C_region ?_
      refine W_move rfl rfl ?_
      refine W_assign rfl rfl ?_
      refine W_nil ?_
      refine N_code ?_
      refine C_seq ?_
      refine C_seq ?_
      refine C_region ?_
      refine W_move rfl rfl ?_
      refine W_lss rfl rfl rfl ?_
      refine W_nil ?_
      refine N_code ?_
      refine C_cond rfl (fun hc39 => ?_) (fun hc39 => ?_)
      · have hc39 := of_decide_eq_true hc39
        refine C_seq ?_
        refine C_region ?_
        refine W_move rfl rfl ?_
        refine W_move rfl rfl ?_
        refine W_move rfl rfl ?_
        refine W_mul rfl rfl rfl (i64_id (by omega) (by omega)) ?_
        refine W_move rfl rfl ?_
        refine W_mul rfl rfl rfl (i64_id (by omega) (by omega)) ?_
        refine W_add rfl rfl rfl (i64_id (by omega) (by omega)) ?_
        refine W_slice (4 * i) (4 * i + 4) rfl Go.Proofs.Try.underlying25 Ty.cells5 Ty.info5 rfl ⟨_, ev_int rfl (by omega)⟩ ⟨_, ev_int rfl (by omega)⟩ hp (by omega) (by omega) ?_
        intro vq hq
        refine W_call rfl Ty.named74 rfl (high_ret _ _ _ _ _ hq (by simp; omega)) ?_
        rintro v w11 ⟨rfl, rfl⟩
        refine W_conv rfl rfl Ty.some99 Go.Proofs.Try.underlying94 (u64_u32 _) ?_
        refine W_index_arr0 i rfl Go.Proofs.Try.underlying98 Ty.cells94 Ty.info94 rfl rfl rfl (by omega) ?_
        refine W_store_cell 0 rfl rfl hL rfl Ty.cells94 Ty.info94 rfl rfl (by rw [List.length_map, pads_len _ _ (by omega)]; omega) ?_
        intro w12 hU12 hL
        have hu12 := hU12.size
        replace hp := hp.upd hU12 (by omega)
        replace hK := hK.upd hU12 (by omega)
        replace hq := hq.upd hU12 (by omega)
        refine W_nil ?_
        refine N_code ?_
        refine C_exit _ rfl ?_
        refine N_code ?_
        refine C_region ?_
        refine W_add rfl rfl rfl (i64_id (by omega) (by omega)) ?_
        refine W_move rfl rfl ?_
        refine W_nil ?_
        exact N_again (i + 1) ⟨by rw [← pads_step pt i (by omega) _ (if_pos (show i < 16 by omega)).symm]; exact hL, hp, hK, by omega, by omega⟩ ⟨rfl, rfl, rfl, rfl, rfl, look_int rfl (by omega), trivial⟩ (by omega)
      · have hc39 := of_decide_eq_false hc39
        refine C_skip ?_
        refine N_code ?_
        refine C_seq ?_
        apply C_draw 9 [[], [0], [1], [2], [], [4], [5], [6], [3]] [.val _, .val _, .val _, .val _, .val _, .val _, .val _, .val _, .val _] Ty.mixed rfl rfl (by kernel_rfl) (by kernel_rfl) rfl
        · refine ⟨?_, ?_, ?_, ?_, ?_, ?_, ?_, ?_, ?_,  trivial⟩
          · intro w13 vq hB13 hH
            have hL := hL.call hB13
            have hp := hp.ext hB13
            have hK := hK.ext hB13
            refine W_move rfl rfl ?_
            refine W_nil ?_
            exact N_step rfl rfl (by first | exact Below.refl _ _ | assumption)
          · intro w14 vq hB14 hH
            have hL := hL.call hB14
            have hp := hp.ext hB14
            have hK := hK.ext hB14
            refine W_subi rfl rfl rfl (i64_id (by omega) (by omega)) ?_
            refine W_nil ?_
            exact N_step rfl rfl (by first | exact Below.refl _ _ | assumption)
          · intro w15 vq hB15 hH
            have hL := hL.call hB15
            have hp := hp.ext hB15
            have hK := hK.ext hB15
            refine W_index_arr0 (i - 15) rfl Go.Proofs.Try.underlying98 Ty.cells94 Ty.info94 rfl rfl (by omega) (by omega) ?_
            refine W_nil ?_
            exact N_step rfl rfl (by first | exact Below.refl _ _ | assumption)
          · intro w16 vq hB16 hH
            have hL := hL.call hB16
            have hp := hp.ext hB16
            have hK := hK.ext hB16
            refine W_load_cell 0 rfl Ty.cell94 rfl hL rfl (mapW_get (by first | omega | (simp; omega))) ?_
            refine W_nil ?_
            exact N_step rfl rfl (by first | exact Below.refl _ _ | assumption)
          · intro w17 vq hB17 hH
            have hL := hL.call hB17
            have hp := hp.ext hB17
            have hK := hK.ext hB17
            refine W_move rfl rfl ?_
            refine W_nil ?_
            exact N_step rfl rfl (by first | exact Below.refl _ _ | assumption)
          · intro w18 vq hB18 hH
            have hL := hL.call hB18
            have hp := hp.ext hB18
            have hK := hK.ext hB18
            refine W_subi rfl rfl rfl (i64_id (by omega) (by omega)) ?_
            refine W_nil ?_
            exact N_step rfl rfl (by first | exact Below.refl _ _ | assumption)
          · intro w19 vq hB19 hH
            have hL := hL.call hB19
            have hp := hp.ext hB19
            have hK := hK.ext hB19
            refine W_index_arr0 (i - 2) rfl Go.Proofs.Try.underlying98 Ty.cells94 Ty.info94 rfl rfl (by omega) (by omega) ?_
            refine W_nil ?_
            exact N_step rfl rfl (by first | exact Below.refl _ _ | assumption)
          · intro w20 vq hB20 hH
            have hL := hL.call hB20
            have hp := hp.ext hB20
            have hK := hK.ext hB20
            refine W_load_cell 0 rfl Ty.cell94 rfl hL rfl (mapW_get (by first | omega | (simp; omega))) ?_
            refine W_nil ?_
            exact N_step rfl rfl (by first | exact Below.refl _ _ | assumption)
          · intro w21 vq hB21 hH
            have hq21 := hB21.size
            have hL := hL.call hB21
            have hp := hp.ext hB21
            have hK := hK.ext hB21
            refine W_assign rfl rfl ?_
            refine W_nil ?_
            exact N_step rfl rfl (by first | exact Below.refl _ _ | assumption)
        intro w22 vq hB22 hH
        have hq22 := hB22.size
        clear hH
        replace hL := hL.call hB22
        replace hp := hp.ext hB22
        replace hK := hK.ext hB22
        refine W_assign rfl rfl ?_
        refine W_nil ?_
        refine N_code ?_
        refine C_seq ?_
        refine C_region ?_
        refine W_move rfl rfl ?_
        refine W_call rfl Ty.named75 rfl (rotl_ret 7 _ _ _ rfl (by omega) (by omega)) ?_
        rintro v w23 ⟨rfl, rfl⟩
        refine W_move rfl rfl ?_
        refine W_call rfl Ty.named75 rfl (rotl_ret 18 _ _ _ rfl (by omega) (by omega)) ?_
        rintro v w24 ⟨rfl, rfl⟩
        refine W_bits (by simp) rfl rfl rfl (u32_xor _ _) ?_
        refine W_move rfl rfl ?_
        refine W_shr rfl rfl rfl (by decide) (by decide) (u32_shr _ _ 3 rfl (by decide)) ?_
        refine W_bits (by simp) rfl rfl rfl (u32_xor _ _) ?_
        refine W_assign rfl rfl ?_
        refine W_nil ?_
        refine N_code ?_
        refine C_seq ?_
        refine C_region ?_
        refine W_move rfl rfl ?_
        refine W_call rfl Ty.named75 rfl (rotl_ret 17 _ _ _ rfl (by omega) (by omega)) ?_
        rintro v w25 ⟨rfl, rfl⟩
        refine W_move rfl rfl ?_
        refine W_call rfl Ty.named75 rfl (rotl_ret 19 _ _ _ rfl (by omega) (by omega)) ?_
        rintro v w26 ⟨rfl, rfl⟩
        refine W_bits (by simp) rfl rfl rfl (u32_xor _ _) ?_
        refine W_move rfl rfl ?_
        refine W_shr rfl rfl rfl (by decide) (by decide) (u32_shr _ _ 10 rfl (by decide)) ?_
        refine W_bits (by simp) rfl rfl rfl (u32_xor _ _) ?_
        refine W_assign rfl rfl ?_
        refine W_nil ?_
        refine N_code ?_
        apply C_draw 14 [[], [], [1], [2], [3], [], [4, 5], [], [7], [8], [9], [6, 10], [], [11, 12]] [.val _, .val _, .val _, .val _, .val _, .val _, .val _, .val _, .val _, .val _, .val _, .val _, .val _, .val _] Ty.mixed rfl rfl (by kernel_rfl) (by kernel_rfl) rfl
        · refine ⟨?_, ?_, ?_, ?_, ?_, ?_, ?_, ?_, ?_, ?_, ?_, ?_, ?_, ?_,  trivial⟩
          · intro w27 vq hB27 hH
            have hL := hL.call hB27
            have hp := hp.ext hB27
            have hK := hK.ext hB27
            refine W_move rfl rfl ?_
            refine W_nil ?_
            exact N_step rfl rfl (by first | exact Below.refl _ _ | assumption)
          · intro w28 vq hB28 hH
            have hL := hL.call hB28
            have hp := hp.ext hB28
            have hK := hK.ext hB28
            refine W_move rfl rfl ?_
            refine W_nil ?_
            exact N_step rfl rfl (by first | exact Below.refl _ _ | assumption)
          · intro w29 vq hB29 hH
            have hL := hL.call hB29
            have hp := hp.ext hB29
            have hK := hK.ext hB29
            refine W_subi rfl rfl rfl (i64_id (by omega) (by omega)) ?_
            refine W_nil ?_
            exact N_step rfl rfl (by first | exact Below.refl _ _ | assumption)
          · intro w30 vq hB30 hH
            have hL := hL.call hB30
            have hp := hp.ext hB30
            have hK := hK.ext hB30
            refine W_index_arr0 (i - 16) rfl Go.Proofs.Try.underlying98 Ty.cells94 Ty.info94 rfl rfl (by omega) (by omega) ?_
            refine W_nil ?_
            exact N_step rfl rfl (by first | exact Below.refl _ _ | assumption)
          · intro w31 vq hB31 hH
            have hL := hL.call hB31
            have hp := hp.ext hB31
            have hK := hK.ext hB31
            refine W_load_cell 0 rfl Ty.cell94 rfl hL rfl (mapW_get (by first | omega | (simp; omega))) ?_
            refine W_nil ?_
            exact N_step rfl rfl (by first | exact Below.refl _ _ | assumption)
          · intro w32 vq hB32 hH
            have hL := hL.call hB32
            have hp := hp.ext hB32
            have hK := hK.ext hB32
            refine W_move rfl rfl ?_
            refine W_nil ?_
            exact N_step rfl rfl (by first | exact Below.refl _ _ | assumption)
          · intro w33 vq hB33 hH
            have hL := hL.call hB33
            have hp := hp.ext hB33
            have hK := hK.ext hB33
            refine W_add rfl rfl rfl (u32_add _ _) ?_
            refine W_nil ?_
            exact N_step rfl rfl (by first | exact Below.refl _ _ | assumption)
          · intro w34 vq hB34 hH
            have hL := hL.call hB34
            have hp := hp.ext hB34
            have hK := hK.ext hB34
            refine W_move rfl rfl ?_
            refine W_nil ?_
            exact N_step rfl rfl (by first | exact Below.refl _ _ | assumption)
          · intro w35 vq hB35 hH
            have hL := hL.call hB35
            have hp := hp.ext hB35
            have hK := hK.ext hB35
            refine W_subi rfl rfl rfl (i64_id (by omega) (by omega)) ?_
            refine W_nil ?_
            exact N_step rfl rfl (by first | exact Below.refl _ _ | assumption)
          · intro w36 vq hB36 hH
            have hL := hL.call hB36
            have hp := hp.ext hB36
            have hK := hK.ext hB36
            refine W_index_arr0 (i - 7) rfl Go.Proofs.Try.underlying98 Ty.cells94 Ty.info94 rfl rfl (by omega) (by omega) ?_
            refine W_nil ?_
            exact N_step rfl rfl (by first | exact Below.refl _ _ | assumption)
          · intro w37 vq hB37 hH
            have hL := hL.call hB37
            have hp := hp.ext hB37
            have hK := hK.ext hB37
            refine W_load_cell 0 rfl Ty.cell94 rfl hL rfl (mapW_get (by first | omega | (simp; omega))) ?_
            refine W_nil ?_
            exact N_step rfl rfl (by first | exact Below.refl _ _ | assumption)
          · intro w38 vq hB38 hH
            have hL := hL.call hB38
            have hp := hp.ext hB38
            have hK := hK.ext hB38
            refine W_add rfl rfl rfl (u32_add _ _) ?_
            refine W_nil ?_
            exact N_step rfl rfl (by first | exact Below.refl _ _ | assumption)
          · intro w39 vq hB39 hH
            have hL := hL.call hB39
            have hp := hp.ext hB39
            have hK := hK.ext hB39
            refine W_move rfl rfl ?_
            refine W_nil ?_
            exact N_step rfl rfl (by first | exact Below.refl _ _ | assumption)
          · intro w40 vq hB40 hH
            have hL := hL.call hB40
            have hp := hp.ext hB40
            have hK := hK.ext hB40
            refine W_add rfl rfl rfl (u32_add _ _) ?_
            refine W_nil ?_
            exact N_step rfl rfl (by first | exact Below.refl _ _ | assumption)
        intro w41 vq hB41 hH
        have hq41 := hB41.size
        clear hH
        replace hL := hL.call hB41
        replace hp := hp.ext hB41
        replace hK := hK.ext hB41
        refine W_index_arr0 i rfl Go.Proofs.Try.underlying98 Ty.cells94 Ty.info94 rfl rfl rfl (by omega) ?_
        refine W_store_cell 0 rfl rfl hL rfl Ty.cells94 Ty.info94 rfl rfl (by rw [List.length_map, pads_len _ _ (by omega)]; omega) ?_
        intro w42 hU42 hL
        have hu42 := hU42.size
        replace hp := hp.upd hU42 (by omega)
        replace hK := hK.upd hU42 (by omega)
        refine W_nil ?_
        refine N_block ?_
        refine N_code ?_
        refine C_region ?_
        refine W_add rfl rfl rfl (i64_id (by omega) (by omega)) ?_
        refine W_move rfl rfl ?_
        refine W_nil ?_
        exact N_again (i + 1) ⟨by rw [← pads_step pt i (by omega) _ ((nextW_pads pt i (by omega)).trans (if_neg (show ¬ i < 16 by omega)).symm)]; exact hL, hp, hK, by omega, by omega⟩ ⟨rfl, rfl, rfl, rfl, rfl, look_int rfl (by omega), trivial⟩ (by omega)
    · have hc36 := of_decide_eq_false hc36
      refine C_exit _ rfl ?_
      refine N_code ?_
      refine C_seq ?_
      refine C_region ?_
      refine W_load_all 1 rfl Go.Proofs.Try.underlying95 rfl rfl hL rfl (by rw [List.length_map, hhl]; exact Ty.size95) ?_
      refine W_alloc rfl Ty.zero95 ?_
      intro gv w43 hgv hsz43 hB43 hb43
      replace hL := hL.cons hB43 (by omega) (by omega) hb43
      replace hp := hp.ext hB43
      replace hK := hK.ext hB43
      refine W_store_all 0 rfl rfl hL rfl (by rw [List.length_map, hhl]; exact Ty.size95) (by first | exact oneW _ | exact oneB _ | exact fun u hu => (oneCells_spec _ rfl u hu).2) (by rw [List.length_map, hhl]; rfl) ?_
      intro w44 hU44 hL
      have hu44 := hU44.size
      replace hp := hp.upd hU44 (by omega)
      replace hK := hK.upd hU44 (by omega)
      refine W_nil ?_
      refine N_code ?_
      refine C_seq ?_
      refine C_seq ?_
      refine C_region ?_
      refine W_move rfl rfl ?_
      refine W_nil ?_
      refine N_code ?_
      refine C_block ?_
      have hgvp : phi ≤ gv := by omega
      have hgvk : khi ≤ gv := by omega
      have hi64 : i = 64 := by omega
      subst hi64
      rw [pads_all] at hL
      refine C_loop (fun (x : Nat) wr => Led w.heap.size w wr [(gv, 95, (rnds (sched pt 64) hh x).map cW), (gw, 98, (sched pt 64).map cW), (gh, 95, hh.map cW), (gr, 57, (List.replicate 32 (0 : UInt8)).map cB)] ∧ Sl plo phi wr.heap 1 encB vp pt ∧ Sl klo khi wr.heap 1 encW zk K256 ∧ gv < wr.heap.size ∧ x ≤ 64) (fun x => [(2, pl gr 0), (4, pl gh 0), (5, zk), (6, vp), (7, pl gw 0), (13, pl gv 0), (92, .int .i64 (x : Int))]) (fun x => 64 - x) (0) ?_ ?_ ?_
      · exact ⟨hL, hp, hK, by omega, by omega⟩
      · exact ⟨rfl, rfl, rfl, rfl, rfl, rfl, rfl, trivial⟩
      rintro i w45 ⟨hL, hp, hK, hgv2, hi⟩
      have hvl := rnds_len (sched pt 64) hh hhl i
      have hwl := sched_len pt 64
      refine C_seq ?_
      refine C_region ?_
      refine W_lss rfl rfl rfl ?_
      refine W_nil ?_
      refine N_code ?_
      refine C_seq ?_
      refine C_cond rfl (fun hc93 => ?_) (fun hc93 => ?_)
      · have hc93 := of_decide_eq_true hc93
        refine C_skip ?_
        refine N_code ?_
        refine C_seq ?_
        refine C_block ?_
        refine C_seq ?_
        refine C_region ?_
        refine W_move rfl rfl ?_
        refine W_assign rfl rfl ?_
        refine W_nil ?_
        refine N_code ?_
        refine C_seq ?_
        apply C_draw 5 [[], [0], [], [2], [1]] [.val _, .val _, .val _, .val _, .val _] Ty.mixed rfl rfl (by kernel_rfl) (by kernel_rfl) rfl
        · refine ⟨?_, ?_, ?_, ?_, ?_,  trivial⟩
          · intro w46 vq hB46 hH
            have hL := hL.call hB46
            have hp := hp.ext hB46
            have hK := hK.ext hB46
            refine W_index_arr0 4 rfl Go.Proofs.Try.underlying95 Ty.cells94 Ty.info94 rfl rfl rfl (by omega) ?_
            refine W_nil ?_
            exact N_step rfl rfl (by first | exact Below.refl _ _ | assumption)
          · intro w47 vq hB47 hH
            have hL := hL.call hB47
            have hp := hp.ext hB47
            have hK := hK.ext hB47
            refine W_load_cell 0 rfl Ty.cell94 rfl hL rfl (mapW_get (by first | omega | (simp; omega))) ?_
            refine W_nil ?_
            exact N_step rfl rfl (by first | exact Below.refl _ _ | assumption)
          · intro w48 vq hB48 hH
            have hL := hL.call hB48
            have hp := hp.ext hB48
            have hK := hK.ext hB48
            refine W_index_arr0 0 rfl Go.Proofs.Try.underlying95 Ty.cells94 Ty.info94 rfl rfl rfl (by omega) ?_
            refine W_nil ?_
            exact N_step rfl rfl (by first | exact Below.refl _ _ | assumption)
          · intro w49 vq hB49 hH
            have hL := hL.call hB49
            have hp := hp.ext hB49
            have hK := hK.ext hB49
            refine W_load_cell 0 rfl Ty.cell94 rfl hL rfl (mapW_get (by first | omega | (simp; omega))) ?_
            refine W_nil ?_
            exact N_step rfl rfl (by first | exact Below.refl _ _ | assumption)
          · intro w50 vq hB50 hH
            have hq50 := hB50.size
            have hL := hL.call hB50
            have hp := hp.ext hB50
            have hK := hK.ext hB50
            refine W_assign rfl rfl ?_
            refine W_nil ?_
            exact N_step rfl rfl (by first | exact Below.refl _ _ | assumption)
        intro w51 vq hB51 hH
        have hq51 := hB51.size
        clear hH
        replace hL := hL.call hB51
        replace hp := hp.ext hB51
        replace hK := hK.ext hB51
        refine W_assign rfl rfl ?_
        refine W_nil ?_
        refine N_code ?_
        refine C_seq ?_
        refine C_region ?_
        refine W_move rfl rfl ?_
        refine W_call rfl Ty.named75 rfl (rotl_ret 6 _ _ _ rfl (by omega) (by omega)) ?_
        rintro v w52 ⟨rfl, rfl⟩
        refine W_move rfl rfl ?_
        refine W_call rfl Ty.named75 rfl (rotl_ret 11 _ _ _ rfl (by omega) (by omega)) ?_
        rintro v w53 ⟨rfl, rfl⟩
        refine W_bits (by simp) rfl rfl rfl (u32_xor _ _) ?_
        refine W_move rfl rfl ?_
        refine W_call rfl Ty.named75 rfl (rotl_ret 25 _ _ _ rfl (by omega) (by omega)) ?_
        rintro v w54 ⟨rfl, rfl⟩
        refine W_bits (by simp) rfl rfl rfl (u32_xor _ _) ?_
        refine W_assign rfl rfl ?_
        refine W_nil ?_
        refine N_code ?_
        refine C_seq ?_
        apply C_draw 24 [[], [0], [], [1, 2], [], [], [5], [4, 6], [], [8], [], [10], [9, 11], [7, 12], [3, 13], [], [], [15, 16], [17], [14, 18], [], [20], [21], [19, 22]] [.val _, .val _, .val _, .val _, .val _, .val _, .val _, .val _, .val _, .val _, .val _, .val _, .val _, .val _, .val _, .val _, .val _, .val _, .val _, .val _, .val _, .val _, .val _, .val _] Ty.mixed rfl rfl (by kernel_rfl) (by kernel_rfl) rfl
        · refine ⟨?_, ?_, ?_, ?_, ?_, ?_, ?_, ?_, ?_, ?_, ?_, ?_, ?_, ?_, ?_, ?_, ?_, ?_, ?_, ?_, ?_, ?_, ?_, ?_,  trivial⟩
          · intro w55 vq hB55 hH
            have hL := hL.call hB55
            have hp := hp.ext hB55
            have hK := hK.ext hB55
            refine W_index_arr0 7 rfl Go.Proofs.Try.underlying95 Ty.cells94 Ty.info94 rfl rfl rfl (by omega) ?_
            refine W_nil ?_
            exact N_step rfl rfl (by first | exact Below.refl _ _ | assumption)
          · intro w56 vq hB56 hH
            have hL := hL.call hB56
            have hp := hp.ext hB56
            have hK := hK.ext hB56
            refine W_load_cell 0 rfl Ty.cell94 rfl hL rfl (mapW_get (by first | omega | (simp; omega))) ?_
            refine W_nil ?_
            exact N_step rfl rfl (by first | exact Below.refl _ _ | assumption)
          · intro w57 vq hB57 hH
            have hL := hL.call hB57
            have hp := hp.ext hB57
            have hK := hK.ext hB57
            refine W_move rfl rfl ?_
            refine W_nil ?_
            exact N_step rfl rfl (by first | exact Below.refl _ _ | assumption)
          · intro w58 vq hB58 hH
            have hL := hL.call hB58
            have hp := hp.ext hB58
            have hK := hK.ext hB58
            refine W_add rfl rfl rfl (u32_add _ _) ?_
            refine W_nil ?_
            exact N_step rfl rfl (by first | exact Below.refl _ _ | assumption)
          · intro w59 vq hB59 hH
            have hL := hL.call hB59
            have hp := hp.ext hB59
            have hK := hK.ext hB59
            refine W_move rfl rfl ?_
            refine W_nil ?_
            exact N_step rfl rfl (by first | exact Below.refl _ _ | assumption)
          · intro w60 vq hB60 hH
            have hL := hL.call hB60
            have hp := hp.ext hB60
            have hK := hK.ext hB60
            refine W_index_arr0 5 rfl Go.Proofs.Try.underlying95 Ty.cells94 Ty.info94 rfl rfl rfl (by omega) ?_
            refine W_nil ?_
            exact N_step rfl rfl (by first | exact Below.refl _ _ | assumption)
          · intro w61 vq hB61 hH
            have hL := hL.call hB61
            have hp := hp.ext hB61
            have hK := hK.ext hB61
            refine W_load_cell 0 rfl Ty.cell94 rfl hL rfl (mapW_get (by first | omega | (simp; omega))) ?_
            refine W_nil ?_
            exact N_step rfl rfl (by first | exact Below.refl _ _ | assumption)
          · intro w62 vq hB62 hH
            have hL := hL.call hB62
            have hp := hp.ext hB62
            have hK := hK.ext hB62
            refine W_bits (by simp) rfl rfl rfl (u32_and _ _) ?_
            refine W_nil ?_
            exact N_step rfl rfl (by first | exact Below.refl _ _ | assumption)
          · intro w63 vq hB63 hH
            have hL := hL.call hB63
            have hp := hp.ext hB63
            have hK := hK.ext hB63
            refine W_move rfl rfl ?_
            refine W_nil ?_
            exact N_step rfl rfl (by first | exact Below.refl _ _ | assumption)
          · intro w64 vq hB64 hH
            have hq64 := hB64.size
            have hL := hL.call hB64
            have hp := hp.ext hB64
            have hK := hK.ext hB64
            refine W_compl rfl rfl (u32_not _) ?_
            refine W_nil ?_
            exact N_step rfl rfl (by first | exact Below.refl _ _ | assumption)
          · intro w65 vq hB65 hH
            have hL := hL.call hB65
            have hp := hp.ext hB65
            have hK := hK.ext hB65
            refine W_index_arr0 6 rfl Go.Proofs.Try.underlying95 Ty.cells94 Ty.info94 rfl rfl rfl (by omega) ?_
            refine W_nil ?_
            exact N_step rfl rfl (by first | exact Below.refl _ _ | assumption)
          · intro w66 vq hB66 hH
            have hL := hL.call hB66
            have hp := hp.ext hB66
            have hK := hK.ext hB66
            refine W_load_cell 0 rfl Ty.cell94 rfl hL rfl (mapW_get (by first | omega | (simp; omega))) ?_
            refine W_nil ?_
            exact N_step rfl rfl (by first | exact Below.refl _ _ | assumption)
          · intro w67 vq hB67 hH
            have hL := hL.call hB67
            have hp := hp.ext hB67
            have hK := hK.ext hB67
            refine W_bits (by simp) rfl rfl rfl (u32_and _ _) ?_
            refine W_nil ?_
            exact N_step rfl rfl (by first | exact Below.refl _ _ | assumption)
          · intro w68 vq hB68 hH
            have hL := hL.call hB68
            have hp := hp.ext hB68
            have hK := hK.ext hB68
            refine W_bits (by simp) rfl rfl rfl (u32_xor _ _) ?_
            refine W_nil ?_
            exact N_step rfl rfl (by first | exact Below.refl _ _ | assumption)
          · intro w69 vq hB69 hH
            have hL := hL.call hB69
            have hp := hp.ext hB69
            have hK := hK.ext hB69
            refine W_add rfl rfl rfl (u32_add _ _) ?_
            refine W_nil ?_
            exact N_step rfl rfl (by first | exact Below.refl _ _ | assumption)
          · intro w70 vq hB70 hH
            have hL := hL.call hB70
            have hp := hp.ext hB70
            have hK := hK.ext hB70
            refine W_move rfl rfl ?_
            refine W_nil ?_
            exact N_step rfl rfl (by first | exact Below.refl _ _ | assumption)
          · intro w71 vq hB71 hH
            have hL := hL.call hB71
            have hp := hp.ext hB71
            have hK := hK.ext hB71
            refine W_move rfl rfl ?_
            refine W_nil ?_
            exact N_step rfl rfl (by first | exact Below.refl _ _ | assumption)
          · intro w72 vq hB72 hH
            have hL := hL.call hB72
            have hp := hp.ext hB72
            have hK := hK.ext hB72
            refine W_index i rfl Go.Proofs.Try.underlying96 Ty.cells94 Ty.info94 rfl rfl hK rfl (by rw [K256_len]; omega) ?_
            refine W_nil ?_
            exact N_step rfl rfl (by first | exact Below.refl _ _ | assumption)
          · intro w73 vq hB73 hH
            have hL := hL.call hB73
            have hp := hp.ext hB73
            have hK := hK.ext hB73
            refine W_load1 _ 0 rfl Ty.cell94 rfl hK rfl (getD_some 0 (by rw [K256_len]; omega)) rfl ?_
            refine W_nil ?_
            exact N_step rfl rfl (by first | exact Below.refl _ _ | assumption)
          · intro w74 vq hB74 hH
            have hL := hL.call hB74
            have hp := hp.ext hB74
            have hK := hK.ext hB74
            refine W_add rfl rfl rfl (u32_add _ _) ?_
            refine W_nil ?_
            exact N_step rfl rfl (by first | exact Below.refl _ _ | assumption)
          · intro w75 vq hB75 hH
            have hL := hL.call hB75
            have hp := hp.ext hB75
            have hK := hK.ext hB75
            refine W_move rfl rfl ?_
            refine W_nil ?_
            exact N_step rfl rfl (by first | exact Below.refl _ _ | assumption)
          · intro w76 vq hB76 hH
            have hL := hL.call hB76
            have hp := hp.ext hB76
            have hK := hK.ext hB76
            refine W_index_arr0 i rfl Go.Proofs.Try.underlying98 Ty.cells94 Ty.info94 rfl rfl rfl (by omega) ?_
            refine W_nil ?_
            exact N_step rfl rfl (by first | exact Below.refl _ _ | assumption)
          · intro w77 vq hB77 hH
            have hL := hL.call hB77
            have hp := hp.ext hB77
            have hK := hK.ext hB77
            refine W_load_cell 1 rfl Ty.cell94 rfl hL rfl (mapW_get (by first | omega | (simp; omega))) ?_
            refine W_nil ?_
            exact N_step rfl rfl (by first | exact Below.refl _ _ | assumption)
          · intro w78 vq hB78 hH
            have hL := hL.call hB78
            have hp := hp.ext hB78
            have hK := hK.ext hB78
            refine W_add rfl rfl rfl (u32_add _ _) ?_
            refine W_nil ?_
            exact N_step rfl rfl (by first | exact Below.refl _ _ | assumption)
        intro w79 vq hB79 hH
        have hq79 := hB79.size
        clear hH
        replace hL := hL.call hB79
        replace hp := hp.ext hB79
        replace hK := hK.ext hB79
        refine W_assign rfl rfl ?_
        refine W_nil ?_
        refine N_code ?_
        refine C_seq ?_
        refine C_region ?_
        refine W_move rfl rfl ?_
        refine W_call rfl Ty.named75 rfl (rotl_ret 2 _ _ _ rfl (by omega) (by omega)) ?_
        rintro v w80 ⟨rfl, rfl⟩
        refine W_move rfl rfl ?_
        refine W_call rfl Ty.named75 rfl (rotl_ret 13 _ _ _ rfl (by omega) (by omega)) ?_
        rintro v w81 ⟨rfl, rfl⟩
        refine W_bits (by simp) rfl rfl rfl (u32_xor _ _) ?_
        refine W_move rfl rfl ?_
        refine W_call rfl Ty.named75 rfl (rotl_ret 22 _ _ _ rfl (by omega) (by omega)) ?_
        rintro v w82 ⟨rfl, rfl⟩
        refine W_bits (by simp) rfl rfl rfl (u32_xor _ _) ?_
        refine W_assign rfl rfl ?_
        refine W_nil ?_
        refine N_code ?_
        refine C_seq ?_
        refine C_region ?_
        refine W_move rfl rfl ?_
        refine W_move rfl rfl ?_
        refine W_index_arr0 1 rfl Go.Proofs.Try.underlying95 Ty.cells94 Ty.info94 rfl rfl rfl (by omega) ?_
        refine W_load_cell 0 rfl Ty.cell94 rfl hL rfl (mapW_get (by first | omega | (simp; omega))) ?_
        refine W_bits (by simp) rfl rfl rfl (u32_and _ _) ?_
        refine W_move rfl rfl ?_
        refine W_index_arr0 2 rfl Go.Proofs.Try.underlying95 Ty.cells94 Ty.info94 rfl rfl rfl (by omega) ?_
        refine W_load_cell 0 rfl Ty.cell94 rfl hL rfl (mapW_get (by first | omega | (simp; omega))) ?_
        refine W_bits (by simp) rfl rfl rfl (u32_and _ _) ?_
        refine W_bits (by simp) rfl rfl rfl (u32_xor _ _) ?_
        refine W_index_arr0 1 rfl Go.Proofs.Try.underlying95 Ty.cells94 Ty.info94 rfl rfl rfl (by omega) ?_
        refine W_load_cell 0 rfl Ty.cell94 rfl hL rfl (mapW_get (by first | omega | (simp; omega))) ?_
        refine W_index_arr0 2 rfl Go.Proofs.Try.underlying95 Ty.cells94 Ty.info94 rfl rfl rfl (by omega) ?_
        refine W_load_cell 0 rfl Ty.cell94 rfl hL rfl (mapW_get (by first | omega | (simp; omega))) ?_
        refine W_bits (by simp) rfl rfl rfl (u32_and _ _) ?_
        refine W_bits (by simp) rfl rfl rfl (u32_xor _ _) ?_
        refine W_add rfl rfl rfl (u32_add _ _) ?_
        refine W_assign rfl rfl ?_
        refine W_nil ?_
        refine N_code ?_
        refine C_region ?_
        refine W_move rfl rfl ?_
        refine W_move rfl rfl ?_
        refine W_add rfl rfl rfl (u32_add _ _) ?_
        refine W_move rfl rfl ?_
        refine W_index_arr0 1 rfl Go.Proofs.Try.underlying95 Ty.cells94 Ty.info94 rfl rfl rfl (by omega) ?_
        refine W_load_cell 0 rfl Ty.cell94 rfl hL rfl (mapW_get (by first | omega | (simp; omega))) ?_
        refine W_index_arr0 2 rfl Go.Proofs.Try.underlying95 Ty.cells94 Ty.info94 rfl rfl rfl (by omega) ?_
        refine W_load_cell 0 rfl Ty.cell94 rfl hL rfl (mapW_get (by first | omega | (simp; omega))) ?_
        refine W_index_arr0 3 rfl Go.Proofs.Try.underlying95 Ty.cells94 Ty.info94 rfl rfl rfl (by omega) ?_
        refine W_load_cell 0 rfl Ty.cell94 rfl hL rfl (mapW_get (by first | omega | (simp; omega))) ?_
        refine W_move rfl rfl ?_
        refine W_add rfl rfl rfl (u32_add _ _) ?_
        refine W_move rfl rfl ?_
        refine W_index_arr0 5 rfl Go.Proofs.Try.underlying95 Ty.cells94 Ty.info94 rfl rfl rfl (by omega) ?_
        refine W_load_cell 0 rfl Ty.cell94 rfl hL rfl (mapW_get (by first | omega | (simp; omega))) ?_
        refine W_index_arr0 6 rfl Go.Proofs.Try.underlying95 Ty.cells94 Ty.info94 rfl rfl rfl (by omega) ?_
        refine W_load_cell 0 rfl Ty.cell94 rfl hL rfl (mapW_get (by first | omega | (simp; omega))) ?_
        refine W_build_arr rfl Go.Proofs.Try.underlying95 Ty.cells94 Ty.info94 Ty.zero95 rfl rfl rfl rfl ?_
        refine W_store_all 0 rfl rfl hL rfl Ty.size95 (by first | exact oneW _ | exact oneB _ | exact fun u hu => (oneCells_spec _ rfl u hu).2) (by simp [hvl]) ?_
        intro w83 hU83 hL
        have hu83 := hU83.size
        replace hp := hp.upd hU83 (by omega)
        replace hK := hK.upd hU83 (by omega)
        refine W_nil ?_
        refine N_block ?_
        refine N_code ?_
        refine C_region ?_
        refine W_add rfl rfl rfl (i64_id (by omega) (by omega)) ?_
        refine W_move rfl rfl ?_
        refine W_nil ?_
        exact N_again (i + 1) ⟨hL, hp, hK, by omega, by omega⟩ ⟨rfl, rfl, rfl, rfl, rfl, rfl, look_int rfl (by omega), trivial⟩ (by omega)
      · have hc93 := of_decide_eq_false hc93
        refine C_exit _ rfl ?_
        refine N_code ?_
        refine C_seq ?_
        refine C_region ?_
        refine W_move rfl rfl ?_
        refine W_nil ?_
        refine N_code ?_
        refine C_block ?_
        have hi64 : i = 64 := by omega
        subst hi64
        refine C_loop (fun (x : Nat) wr => Led w.heap.size w wr [(gv, 95, (rnds (sched pt 64) hh 64).map cW), (gw, 98, (sched pt 64).map cW), (gh, 95, (mix hh (rnds (sched pt 64) hh 64) x).map cW), (gr, 57, (List.replicate 32 (0 : UInt8)).map cB)] ∧ Sl plo phi wr.heap 1 encB vp pt ∧ Sl klo khi wr.heap 1 encW zk K256 ∧ phi ≤ wr.heap.size ∧ khi ≤ wr.heap.size ∧ x ≤ 8) (fun x => [(2, pl gr 0), (4, pl gh 0), (5, zk), (6, vp), (7, pl gw 0), (13, pl gv 0), (175, .int .i64 (x : Int))]) (fun x => 8 - x) (0) ?_ ?_ ?_
        · exact ⟨by rw [mix_zero _ _ hhl]; exact hL, hp, hK, by omega, by omega, by omega⟩
        · exact ⟨rfl, rfl, rfl, rfl, rfl, rfl, rfl, trivial⟩
        rintro i w84 ⟨hL, hp, hK, hphi3, hkhi3, hi⟩
        have hvl := rnds_len (sched pt 64) hh hhl 64
        refine C_seq ?_
        refine C_region ?_
        refine W_lss rfl rfl rfl ?_
        refine W_nil ?_
        refine N_code ?_
        refine C_seq ?_
        refine C_cond rfl (fun hc176 => ?_) (fun hc176 => ?_)
        · have hc176 := of_decide_eq_true hc176
          refine C_skip ?_
          refine N_code ?_
          refine C_seq ?_
          refine C_block ?_
          refine C_seq ?_
          refine C_region ?_
          refine W_move rfl rfl ?_
          refine W_assign rfl rfl ?_
          refine W_nil ?_
          refine N_code ?_
          apply C_draw 7 [[], [0], [1], [], [3], [4], [2, 5]] [.val _, .val _, .val _, .val _, .val _, .val _, .val _] Ty.mixed rfl rfl (by kernel_rfl) (by kernel_rfl) rfl
          · refine ⟨?_, ?_, ?_, ?_, ?_, ?_, ?_,  trivial⟩
            · intro w85 vq hB85 hH
              have hL := hL.call hB85
              have hp := hp.ext hB85
              have hK := hK.ext hB85
              refine W_move rfl rfl ?_
              refine W_nil ?_
              exact N_step rfl rfl (by first | exact Below.refl _ _ | assumption)
            · intro w86 vq hB86 hH
              have hL := hL.call hB86
              have hp := hp.ext hB86
              have hK := hK.ext hB86
              refine W_index_arr0 i rfl Go.Proofs.Try.underlying95 Ty.cells94 Ty.info94 rfl rfl rfl (by omega) ?_
              refine W_nil ?_
              exact N_step rfl rfl (by first | exact Below.refl _ _ | assumption)
            · intro w87 vq hB87 hH
              have hL := hL.call hB87
              have hp := hp.ext hB87
              have hK := hK.ext hB87
              refine W_load_cell 2 rfl Ty.cell94 rfl hL rfl (mapW_get (by rw [mix_len]; omega)) ?_
              refine W_nil ?_
              exact N_step rfl rfl (by first | exact Below.refl _ _ | assumption)
            · intro w88 vq hB88 hH
              have hL := hL.call hB88
              have hp := hp.ext hB88
              have hK := hK.ext hB88
              refine W_move rfl rfl ?_
              refine W_nil ?_
              exact N_step rfl rfl (by first | exact Below.refl _ _ | assumption)
            · intro w89 vq hB89 hH
              have hL := hL.call hB89
              have hp := hp.ext hB89
              have hK := hK.ext hB89
              refine W_index_arr0 i rfl Go.Proofs.Try.underlying95 Ty.cells94 Ty.info94 rfl rfl rfl (by omega) ?_
              refine W_nil ?_
              exact N_step rfl rfl (by first | exact Below.refl _ _ | assumption)
            · intro w90 vq hB90 hH
              have hL := hL.call hB90
              have hp := hp.ext hB90
              have hK := hK.ext hB90
              refine W_load_cell 0 rfl Ty.cell94 rfl hL rfl (mapW_get (by first | omega | (simp; omega))) ?_
              refine W_nil ?_
              exact N_step rfl rfl (by first | exact Below.refl _ _ | assumption)
            · intro w91 vq hB91 hH
              have hL := hL.call hB91
              have hp := hp.ext hB91
              have hK := hK.ext hB91
              refine W_add rfl rfl rfl (u32_add _ _) ?_
              refine W_nil ?_
              exact N_step rfl rfl (by first | exact Below.refl _ _ | assumption)
          intro w92 vq hB92 hH
          have hq92 := hB92.size
          clear hH
          replace hL := hL.call hB92
          replace hp := hp.ext hB92
          replace hK := hK.ext hB92
          refine W_index_arr0 i rfl Go.Proofs.Try.underlying95 Ty.cells94 Ty.info94 rfl rfl rfl (by omega) ?_
          refine W_store_cell 2 rfl rfl hL rfl Ty.cells94 Ty.info94 rfl rfl (by rw [List.length_map, mix_len]; omega) ?_
          intro w93 hU93 hL
          have hu93 := hU93.size
          replace hp := hp.upd hU93 (by omega)
          replace hK := hK.upd hU93 (by omega)
          refine W_nil ?_
          refine N_block ?_
          refine N_code ?_
          refine C_region ?_
          refine W_add rfl rfl rfl (i64_id (by omega) (by omega)) ?_
          refine W_move rfl rfl ?_
          refine W_nil ?_
          exact N_again (i + 1) ⟨by rw [← mix_step hh (rnds (sched pt 64) hh 64) i (by omega) _ rfl]; exact hL, hp, hK, by omega, by omega, by omega⟩ ⟨rfl, rfl, rfl, rfl, rfl, rfl, look_int rfl (by omega), trivial⟩ (by omega)
        · have hc176 := of_decide_eq_false hc176
          refine C_exit _ rfl ?_
          refine N_block ?_
          refine N_code ?_
          refine C_region ?_
          refine W_move rfl rfl ?_
          refine W_slice 64 _ rfl Go.Proofs.Try.underlying25 Ty.cells5 Ty.info5 rfl ⟨_, rfl⟩ (by rfl) hp (by omega) (Nat.le_refl _) ?_
          intro vp2 hp2
          refine W_assign rfl rfl ?_
          refine W_nil ?_
          have hi8 : i = 8 := by omega
          subst hi8
          replace hL := hL.drop.drop
          exact N_again (n - 1, vp2, blockL hh pt, (pt.take pt.length).drop 64) ⟨hL, hp2, hK, by omega, by omega, mix_len _ _ _, by simp; omega, by simp; omega, by rw [← hbl]; (obtain ⟨m, rfl⟩ : ∃ m, n = m + 1 := ⟨n - 1, by omega⟩); rw [List.take_length]; rfl⟩ ⟨rfl, rfl, rfl, rfl, trivial⟩ (by show n - 1 < n; omega)
  · have hc32 := of_decide_eq_false hc32
    refine C_exit _ rfl ?_
    refine N_code ?_
    refine C_seq ?_
    refine C_region ?_
    refine W_alloc rfl Ty.zero57 ?_
    intro go w95 hgo hsz95 hB95 hb95
    replace hL := hL.cons hB95 (by omega) (by omega) hb95
    replace hp := hp.ext hB95
    replace hK := hK.ext hB95
    refine W_nil ?_
    refine N_code ?_
    refine C_seq ?_
    refine C_seq ?_
    refine C_region ?_
    refine W_move rfl rfl ?_
    refine W_nil ?_
    refine N_code ?_
    refine C_block ?_
    have hn0 : n = 0 := by omega
    subst hn0
    refine C_loop (fun (x : Nat) wr => Led w.heap.size w wr [(go, 57, (digs hh x).map cB), (gh, 95, hh.map cW), (gr, 57, (List.replicate 32 (0 : UInt8)).map cB)] ∧ x ≤ 32) (fun x => [(2, pl gr 0), (4, pl gh 0), (22, pl go 0), (187, .int .i64 (x : Int))]) (fun x => 32 - x) (0) ?_ ?_ ?_
    · exact ⟨hL, by omega⟩
    · exact ⟨rfl, rfl, rfl, rfl, trivial⟩
    rintro i w96 ⟨hL, hi⟩
    have hdl := digs_len hh i hi
    refine C_seq ?_
    refine C_region ?_
    refine W_lss rfl rfl rfl ?_
    refine W_nil ?_
    refine N_code ?_
    refine C_seq ?_
    refine C_cond rfl (fun hc188 => ?_) (fun hc188 => ?_)
    · have hc188 := of_decide_eq_true hc188
      refine C_skip ?_
      refine N_code ?_
      refine C_seq ?_
      refine C_block ?_
      refine C_seq ?_
      refine C_region ?_
      refine W_move rfl rfl ?_
      refine W_assign rfl rfl ?_
      refine W_nil ?_
      refine N_code ?_
      refine C_region ?_
      refine W_move rfl rfl ?_
      refine W_move rfl rfl ?_
      refine W_quo rfl rfl rfl (by decide) (nat_tdiv _ 4 _ rfl (by omega)) ?_
      refine W_index_arr0 (i / 4) rfl Go.Proofs.Try.underlying95 Ty.cells94 Ty.info94 rfl rfl rfl (by omega) ?_
      refine W_load_cell 1 rfl Ty.cell94 rfl hL rfl (mapW_get (by first | omega | (simp; omega))) ?_
      refine W_move rfl rfl ?_
      refine W_rem rfl rfl rfl (by decide) (nat_tmod _ 4 _ rfl) ?_
      refine W_mul rfl rfl rfl (i64_id (by omega) (by omega)) ?_
      refine W_subi rfl rfl rfl (i64_id (by omega) (by omega)) ?_
      refine W_shr rfl rfl rfl (by omega) (by simp only [IntKind.bits]; omega) (u32_shr _ _ (24 - 8 * (i % 4)) (by omega) (by omega)) ?_
      refine W_conv rfl rfl Ty.some94 Go.Proofs.Try.underlying5 (u32_u8 _) ?_
      refine W_index_arr0 i rfl Go.Proofs.Try.underlying57 Ty.cells5 Ty.info5 rfl rfl rfl (by omega) ?_
      refine W_store_cell 0 rfl rfl hL rfl Ty.cells5 Ty.info5 rfl rfl (by rw [List.length_map, digs_len _ _ (by omega)]; omega) ?_
      intro w97 hU97 hL
      have hu97 := hU97.size
      refine W_nil ?_
      refine N_block ?_
      refine N_code ?_
      refine C_region ?_
      refine W_add rfl rfl rfl (i64_id (by omega) (by omega)) ?_
      refine W_move rfl rfl ?_
      refine W_nil ?_
      exact N_again (i + 1) ⟨by rw [← digs_step hh i (by omega)]; exact hL, by omega⟩ ⟨rfl, rfl, rfl, look_int rfl (by omega), trivial⟩ (by omega)
    · have hc188 := of_decide_eq_false hc188
      refine C_exit _ rfl ?_
      refine N_code ?_
      refine C_seq ?_
      refine C_region ?_
      refine W_load_all 0 rfl Go.Proofs.Try.underlying57 rfl rfl hL rfl (by rw [List.length_map, digs_len _ _ (by omega)]; exact Ty.size57) ?_
      refine W_store_all 2 rfl rfl hL rfl (by rw [List.length_map, digs_len _ _ (by omega)]; exact Ty.size57) (by first | exact oneW _ | exact oneB _ | exact fun u hu => (oneCells_spec _ rfl u hu).2) (by rw [List.length_map, digs_len _ _ (by omega)]; rfl) ?_
      intro w98 hU98 hL
      have hu98 := hU98.size
      refine W_nil ?_
      refine N_code ?_
      refine C_ret_cell 2 rfl rfl hL rfl Go.Proofs.Try.underlying57 rfl (by rw [List.length_map, digs_len _ _ (by omega)]; exact Ty.size57) ?_
      have hi32 : i = 32 := by omega
      subst hi32
      exact ⟨by unfold sha256; rw [← hbl]; rfl, hL.below⟩

end Go.Wk.Sha
