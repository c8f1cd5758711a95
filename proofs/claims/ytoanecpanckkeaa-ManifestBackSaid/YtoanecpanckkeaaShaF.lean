import Derived.Test.YtoanecpanckkeaaShaE
namespace Go.Wk.Sha
open Go.Proofs Go.RowKit
set_option linter.unusedVariables false

def part (q : List UInt8) (t x : Nat) : UInt32 := ((q.drop (4 * t)).take x).foldl (fun a c => a <<< UInt32.ofNat 8 ||| c.toUInt32) 0
theorem part_snoc (q : List UInt8) (t x : Nat) (h : 4 * t + x < q.length) : part q t (x + 1) = part q t x <<< UInt32.ofNat 8 ||| (q.getD (4 * t + x) 0).toUInt32 := by
  unfold part
  have hx : x < (q.drop (4 * t)).length := by simp; omega
  rw [List.take_succ_eq_append_getElem hx]
  simp only [List.foldl_append, List.foldl_cons, List.foldl_nil, List.getElem_drop]
  congr 2
  simp [h]
theorem shl8 (x : UInt64) : (x <<< UInt64.ofNat 8).toUInt32 = x.toUInt32 <<< UInt32.ofNat 8 := by
  apply UInt32.toNat.inj
  rw [UInt64.toNat_toUInt32, UInt64.toNat_shiftLeft, UInt32.toNat_shiftLeft, UInt64.toNat_toUInt32]
  have h1 : (UInt64.ofNat 8).toNat % 64 = 8 := rfl
  have h2 : (UInt32.ofNat 8).toNat % 32 = 8 := rfl
  rw [h1, h2, Nat.shiftLeft_eq, Nat.shiftLeft_eq]
  omega
theorem or32 (x y : UInt64) : (x ||| y).toUInt32 = x.toUInt32 ||| y.toUInt32 := by
  first
  | exact UInt64.toUInt32_or x y
  | (apply UInt32.toNat.inj; simp [UInt64.toNat_toUInt32, Nat.or_mod_two_pow])
theorem hiL_u32 (l : List UInt8) : (hiL l).toUInt32 = l.foldl (fun a c => a <<< UInt32.ofNat 8 ||| c.toUInt32) 0 := by
  unfold hiL
  have key : ∀ (l : List UInt8) (x : UInt64), (l.foldl (fun x c => x <<< UInt64.ofNat 8 ||| c.toUInt64) x).toUInt32 = l.foldl (fun a c => a <<< UInt32.ofNat 8 ||| c.toUInt32) x.toUInt32 := by
    intro l
    induction l with
    | nil => intro x; rfl
    | cons c l ih =>
      intro x
      simp only [List.foldl_cons]
      rw [ih, or32, shl8]
      have e : c.toUInt64.toUInt32 = c.toUInt32 := by apply UInt32.toNat.inj; rw [UInt64.toNat_toUInt32, UInt8.toNat_toUInt64, UInt8.toNat_toUInt32]; have := c.toNat_lt; omega
      rw [e]
  exact key l 0
theorem part_word (q : List UInt8) (t : Nat) : part q t 4 = wordAt q t := by
  unfold part wordAt
  rw [hiL_u32]
  congr 1
  rw [List.drop_take]
  congr 1
  omega
def padsP (q : List UInt8) (t x : Nat) : List UInt32 := sched q t ++ part q t x :: List.replicate (63 - t) 0
theorem padsP_zero (q : List UInt8) (t : Nat) (h : t < 64) : padsP q t 0 = pads q t := by
  unfold padsP pads
  rw [show 64 - t = (63 - t) + 1 from by omega, List.replicate_succ]
  rfl
theorem padsP_four (q : List UInt8) (t : Nat) (h : t < 16) : padsP q t 4 = pads q (t + 1) := by
  unfold padsP pads
  rw [part_word, sched, if_pos h, show 64 - (t + 1) = 63 - t from by omega]
  simp
theorem padsP_len (q : List UInt8) (t x : Nat) (h : t < 64) : (padsP q t x).length = 64 := by
  simp [padsP, sched_len]; omega
theorem padsP_get (q : List UInt8) (t x : Nat) : (padsP q t x).getD t 0 = part q t x := by
  simp only [padsP, List.getD_eq_getElem?_getD]
  rw [List.getElem?_append_right (by rw [sched_len]; omega), sched_len]
  simp
theorem padsP_step (q : List UInt8) (t x : Nat) (h : 4 * t + x < q.length) (ht : t < 64) (b : UInt8) (hb : b = q.getD (4 * t + x) 0) : ((padsP q t x).map cW).set t (cW ((padsP q t x).getD t 0 <<< UInt32.ofNat 8 ||| b.toUInt32)) = (padsP q t (x + 1)).map cW := by
  rw [← List.map_set, padsP_get, hb, ← part_snoc q t x h]
  congr 1
  simp only [padsP]
  rw [List.set_append_right _ _ (by rw [sched_len]; omega), sched_len, Nat.sub_self, List.set_cons_zero]
theorem nextW_alt (ws : List UInt32) (i : Nat) : ws.getD (i - 16) 0 + ws.getD (i - 7) 0 + sg0 (ws.getD (i - 15) 0) + sg1 (ws.getD (i - 2) 0) = nextW ws i := by
  unfold nextW
  rw [UInt32.add_assoc (ws.getD (i - 16) 0), UInt32.add_comm (ws.getD (i - 7) 0), ← UInt32.add_assoc]
theorem drop_get (l : List UInt8) (a i : Nat) : (l.drop a).getD i 0 = l.getD (a + i) 0 := by
  simp [List.getD_eq_getElem?_getD, List.getElem?_drop]

set_option maxRecDepth 4000 in
theorem id_ret (bs : List UInt8) (vb : Value) (w : World) (lo hi : Nat) (hb : Sl lo hi w.heap 1 encB vb bs) (hhi : hi ≤ w.heap.size) (hlen : bs.length ≤ 1000000000) : Ret Try.prog 84 #[vb] w fun v w' => v = .agg ((sha256 bs).map cB).toArray ∧ Below w.heap.size w w' := by
  refine Ret_of (args := [vb]) Try.func84 rfl rfl ?_
  change C _ _ _ _ [(0, vb)] _
  have hL := Led.nil w
  refine C_seq ?_
  refine C_region ?_
  refine W_alloc rfl Ty.zero57 ?_
  intro gr w1 hgr hsz1 hB1 hb1
  replace hb := hb.ext hB1
  replace hL := hL.cons hB1 (by omega) (by omega) hb1
  refine W_nil ?_
  refine N_code ?_
  refine C_seq ?_
  refine C_region ?_
  refine W_call rfl Ty.named101 rfl (k256_ret _) ?_
  rintro zk w2 ⟨rfl, hB2⟩
  replace hb := hb.ext hB2
  replace hL := hL.call hB2
  have hq2 := hB2.size
  refine W_alloc rfl Ty.zero98 ?_
  intro gk w3 hgk hsz3 hB3 hb3
  replace hb := hb.ext hB3
  replace hL := hL.cons hB3 (by omega) (by omega) hb3
  refine W_store_all 0 rfl rfl hL rfl (by rw [List.length_map, K256_len]; exact Ty.size98) (by first | exact oneW _ | exact oneB _ | exact fun u hu => (oneCells_spec _ rfl u hu).2) (by rw [List.length_map, K256_len]; rfl) ?_
  intro w4 hU4 hL
  have hu4 := hU4.size
  replace hb := hb.upd hU4 (by omega)
  refine W_nil ?_
  refine N_code ?_
  refine C_seq ?_
  refine C_region ?_
  refine W_build_arr rfl Go.Proofs.Try.underlying95 Ty.cells94 Ty.info94 Ty.zero95 rfl rfl rfl rfl ?_
  refine W_alloc rfl Ty.zero95 ?_
  intro gh w5 hgh hsz5 hB5 hb5
  replace hb := hb.ext hB5
  replace hL := hL.cons hB5 (by omega) (by omega) hb5
  refine W_store_all 0 rfl rfl hL rfl Ty.size95 (by first | exact oneW _ | exact oneB _ | exact fun u hu => (oneCells_spec _ rfl u hu).2) (by first | rfl | simp) ?_
  intro w6 hU6 hL
  have hu6 := hU6.size
  replace hb := hb.upd hU6 (by omega)
  refine W_nil ?_
  refine N_code ?_
  refine C_seq ?_
  refine C_region ?_
  refine W_move rfl rfl ?_
  refine W_call rfl Ty.named102 rfl (rpadded_ret bs _ _ _ _ hb hlen (by omega)) ?_
  rintro zp w7 ⟨hp, hB7⟩
  replace hb := hb.ext hB7
  replace hL := hL.call hB7
  have hq7 := hB7.size
  refine W_assign rfl rfl ?_
  refine W_nil ?_
  refine N_code ?_
  refine C_seq ?_
  refine C_seq ?_
  refine C_region ?_
  refine W_assign rfl rfl ?_
  refine W_nil ?_
  refine N_code ?_
  refine C_block ?_
  have hpm := padL_mod bs
  have hple := padL_le bs
  obtain ⟨plo, phi, hpe, hphi, hghp, hgrp, hgkp⟩ : ∃ plo phi, Sl plo phi w7.heap 1 encB zp (padL bs) ∧ phi ≤ w7.heap.size ∧ gh < plo ∧ gr < plo ∧ gk < plo := ⟨_, _, hp, by omega, by omega, by omega, by omega⟩
  clear hp
  have hszE : w.heap.size ≤ w7.heap.size := by omega
  have hz0 : (padL bs).length - 64 * ((padL bs).length / 64) = 0 := by omega
  refine C_loop (fun (x : Nat × List UInt32) wr => Led w.heap.size w wr [(gh, 95, x.2.map cW), (gk, 98, K256.map cW), (gr, 57, (List.replicate 32 (0 : UInt8)).map cB)] ∧ Sl plo phi wr.heap 1 encB zp (padL bs) ∧ phi ≤ wr.heap.size ∧ x.2.length = 8 ∧ 64 * x.1 ≤ (padL bs).length ∧ blocks x.1 x.2 ((padL bs).drop ((padL bs).length - 64 * x.1)) = blocks ((padL bs).length / 64) H0 (padL bs)) (fun x => [(2, pl gr 0), (3, pl gk 0), (4, pl gh 0), (5, zp), (6, .int .i64 (((padL bs).length - 64 * x.1 : Nat) : Int))]) (fun x => x.1) ((padL bs).length / 64, H0) ?_ ?_ ?_
  · exact ⟨hL, hpe, hphi, rfl, by show 64 * ((padL bs).length / 64) ≤ _; omega, by show blocks ((padL bs).length / 64) H0 ((padL bs).drop ((padL bs).length - 64 * ((padL bs).length / 64))) = _; rw [hz0]; rfl⟩
  · exact ⟨rfl, rfl, rfl, rfl, look_int rfl (by show (0 : Int) = (((padL bs).length - 64 * ((padL bs).length / 64) : Nat) : Int); omega), trivial⟩
  rintro ⟨n, hh⟩ w8 ⟨hL, hp, hphi, hhl, hnl, hbl⟩
  simp only at hL hhl hnl hbl
  refine C_seq ?_
  refine C_seq ?_
  refine C_region ?_
  refine W_move rfl rfl ?_
  refine W_move rfl rfl ?_
  refine W_len_sl rfl Go.Proofs.Try.underlying25 rfl hp ?_
  refine W_lss rfl rfl rfl ?_
  refine W_nil ?_
  refine N_code ?_
  refine C_cond rfl (fun hc28 => ?_) (fun hc28 => ?_)
  · have hc28 := of_decide_eq_true hc28
    refine C_skip ?_
    refine N_code ?_
    refine C_seq ?_
    refine C_block ?_
    refine C_seq ?_
    refine C_region ?_
    refine W_alloc rfl Ty.zero98 ?_
    intro gw w9 hgw hsz9 hB9 hb9
    replace hL := hL.cons hB9 (by omega) (by omega) hb9
    replace hp := hp.ext hB9
    refine W_nil ?_
    refine N_code ?_
    refine C_seq ?_
    refine C_seq ?_
    refine C_region ?_
    refine W_assign rfl rfl ?_
    refine W_nil ?_
    refine N_code ?_
    refine C_block ?_
    have hgwp : phi ≤ gw := by omega
    have hn1 : 1 ≤ n := by omega
    have hql : ((padL bs).drop ((padL bs).length - 64 * n)).length = 64 * n := by rw [List.length_drop]; omega
    refine C_loop (fun (x : Nat) wr => Led w.heap.size w wr [(gw, 98, (pads ((padL bs).drop ((padL bs).length - 64 * n)) x).map cW), (gh, 95, hh.map cW), (gk, 98, K256.map cW), (gr, 57, (List.replicate 32 (0 : UInt8)).map cB)] ∧ Sl plo phi wr.heap 1 encB zp (padL bs) ∧ gw < wr.heap.size ∧ x ≤ 64) (fun x => [(2, pl gr 0), (3, pl gk 0), (4, pl gh 0), (5, zp), (6, .int .i64 (((padL bs).length - 64 * n : Nat) : Int)), (7, pl gw 0), (8, .int .i64 (x : Int))]) (fun x => 64 - x) (0) ?_ ?_ ?_
    · exact ⟨by rw [pads_zero]; exact hL, hp, by omega, by omega⟩
    · exact ⟨rfl, rfl, rfl, rfl, rfl, rfl, rfl, trivial⟩
    rintro i w10 ⟨hL, hp, hgw2, hi⟩
    have hpdl := pads_len ((padL bs).drop ((padL bs).length - 64 * n)) i hi
    refine C_seq ?_
    refine C_seq ?_
    refine C_region ?_
    refine W_move rfl rfl ?_
    refine W_lss rfl rfl rfl ?_
    refine W_nil ?_
    refine N_code ?_
    refine C_cond rfl (fun hc32 => ?_) (fun hc32 => ?_)
    · have hc32 := of_decide_eq_true hc32
      refine C_skip ?_
      refine N_code ?_
      refine C_seq ?_
      refine C_block ?_
      refine C_seq ?_
      refine C_seq ?_
      refine C_region ?_
      refine W_move rfl rfl ?_
      refine W_lss rfl rfl rfl ?_
      refine W_nil ?_
      refine N_code ?_
      refine C_cond rfl (fun hc36 => ?_) (fun hc36 => ?_)
      · have hc36 := of_decide_eq_true hc36
        refine C_seq ?_
        refine C_seq ?_
        refine C_region ?_
        refine W_assign rfl rfl ?_
        refine W_nil ?_
        refine N_code ?_
        refine C_block ?_
        refine C_loop (fun (x : Nat) wr => Led w.heap.size w wr [(gw, 98, (padsP ((padL bs).drop ((padL bs).length - 64 * n)) i x).map cW), (gh, 95, hh.map cW), (gk, 98, K256.map cW), (gr, 57, (List.replicate 32 (0 : UInt8)).map cB)] ∧ Sl plo phi wr.heap 1 encB zp (padL bs) ∧ gw < wr.heap.size ∧ x ≤ 4) (fun x => [(2, pl gr 0), (3, pl gk 0), (4, pl gh 0), (5, zp), (6, .int .i64 (((padL bs).length - 64 * n : Nat) : Int)), (7, pl gw 0), (8, .int .i64 (i : Int)), (9, .int .i64 (x : Int))]) (fun x => 4 - x) (0) ?_ ?_ ?_
        · exact ⟨by rw [padsP_zero _ _ (by omega)]; exact hL, hp, by omega, by omega⟩
        · exact ⟨rfl, rfl, rfl, rfl, rfl, rfl, rfl, rfl, trivial⟩
        rintro j w11 ⟨hL, hp, hgw2, hj⟩
        have hpdl := padsP_len ((padL bs).drop ((padL bs).length - 64 * n)) i j (by omega)
        refine C_seq ?_
        refine C_seq ?_
        refine C_region ?_
        refine W_move rfl rfl ?_
        refine W_lss rfl rfl rfl ?_
        refine W_nil ?_
        refine N_code ?_
        refine C_cond rfl (fun hc38 => ?_) (fun hc38 => ?_)
        · have hc38 := of_decide_eq_true hc38
          refine C_skip ?_
          refine N_code ?_
          refine C_seq ?_
          refine C_block ?_
          apply C_draw 16 [[], [], [1], [2], [3], [], [], [], [7], [6, 8], [], [9, 10], [5, 11], [12], [13], [4, 14]] [.val _, .val _, .val _, .val _, .val _, .val _, .val _, .val _, .val _, .val _, .val _, .val _, .val _, .val _, .val _, .val _] Ty.mixed rfl rfl (by kernel_rfl) (by kernel_rfl) rfl
          · refine ⟨?_, ?_, ?_, ?_, ?_, ?_, ?_, ?_, ?_, ?_, ?_, ?_, ?_, ?_, ?_, ?_,  trivial⟩
            · intro w12 vq hB12 hH
              have hL := hL.call hB12
              have hp := hp.ext hB12
              refine W_move rfl rfl ?_
              refine W_nil ?_
              exact N_step rfl rfl (by first | exact Below.refl _ _ | assumption)
            · intro w13 vq hB13 hH
              have hL := hL.call hB13
              have hp := hp.ext hB13
              refine W_move rfl rfl ?_
              refine W_nil ?_
              exact N_step rfl rfl (by first | exact Below.refl _ _ | assumption)
            · intro w14 vq hB14 hH
              have hL := hL.call hB14
              have hp := hp.ext hB14
              refine W_index_arr0 i rfl Go.Proofs.Try.underlying98 Ty.cells94 Ty.info94 rfl rfl rfl (by omega) ?_
              refine W_nil ?_
              exact N_step rfl rfl (by first | exact Below.refl _ _ | assumption)
            · intro w15 vq hB15 hH
              have hL := hL.call hB15
              have hp := hp.ext hB15
              refine W_load_cell 0 rfl Ty.cell94 rfl hL rfl (mapW_get (by rw [padsP_len _ _ _ (by omega)]; omega)) ?_
              refine W_nil ?_
              exact N_step rfl rfl (by first | exact Below.refl _ _ | assumption)
            · intro w16 vq hB16 hH
              have hL := hL.call hB16
              have hp := hp.ext hB16
              refine W_shl rfl rfl rfl (by decide) (by decide) (u32_shl _ _ 8 rfl (by decide)) ?_
              refine W_nil ?_
              exact N_step rfl rfl (by first | exact Below.refl _ _ | assumption)
            · intro w17 vq hB17 hH
              have hL := hL.call hB17
              have hp := hp.ext hB17
              refine W_move rfl rfl ?_
              refine W_nil ?_
              exact N_step rfl rfl (by first | exact Below.refl _ _ | assumption)
            · intro w18 vq hB18 hH
              have hL := hL.call hB18
              have hp := hp.ext hB18
              refine W_move rfl rfl ?_
              refine W_nil ?_
              exact N_step rfl rfl (by first | exact Below.refl _ _ | assumption)
            · intro w19 vq hB19 hH
              have hL := hL.call hB19
              have hp := hp.ext hB19
              refine W_move rfl rfl ?_
              refine W_nil ?_
              exact N_step rfl rfl (by first | exact Below.refl _ _ | assumption)
            · intro w20 vq hB20 hH
              have hL := hL.call hB20
              have hp := hp.ext hB20
              refine W_mul rfl rfl rfl (i64_id (by omega) (by omega)) ?_
              refine W_nil ?_
              exact N_step rfl rfl (by first | exact Below.refl _ _ | assumption)
            · intro w21 vq hB21 hH
              have hL := hL.call hB21
              have hp := hp.ext hB21
              refine W_add rfl rfl rfl (i64_id (by omega) (by omega)) ?_
              refine W_nil ?_
              exact N_step rfl rfl (by first | exact Below.refl _ _ | assumption)
            · intro w22 vq hB22 hH
              have hL := hL.call hB22
              have hp := hp.ext hB22
              refine W_move rfl rfl ?_
              refine W_nil ?_
              exact N_step rfl rfl (by first | exact Below.refl _ _ | assumption)
            · intro w23 vq hB23 hH
              have hL := hL.call hB23
              have hp := hp.ext hB23
              refine W_add rfl rfl rfl (i64_id (by omega) (by omega)) ?_
              refine W_nil ?_
              exact N_step rfl rfl (by first | exact Below.refl _ _ | assumption)
            · intro w24 vq hB24 hH
              have hL := hL.call hB24
              have hp := hp.ext hB24
              refine W_index ((padL bs).length - 64 * n + 4 * i + j) rfl Go.Proofs.Try.underlying25 Ty.cells5 Ty.info5 rfl rfl hp (by omega) (by omega) ?_
              refine W_nil ?_
              exact N_step rfl rfl (by first | exact Below.refl _ _ | assumption)
            · intro w25 vq hB25 hH
              have hL := hL.call hB25
              have hp := hp.ext hB25
              refine W_load1 _ 0 rfl Ty.cell5 rfl hp rfl (getD_some 0 (by omega)) rfl ?_
              refine W_nil ?_
              exact N_step rfl rfl (by first | exact Below.refl _ _ | assumption)
            · intro w26 vq hB26 hH
              have hq26 := hB26.size
              have hL := hL.call hB26
              have hp := hp.ext hB26
              refine W_conv rfl rfl Ty.some5 Go.Proofs.Try.underlying94 (u8_u32 _) ?_
              refine W_nil ?_
              exact N_step rfl rfl (by first | exact Below.refl _ _ | assumption)
            · intro w27 vq hB27 hH
              have hL := hL.call hB27
              have hp := hp.ext hB27
              refine W_bits (by simp) rfl rfl rfl (u32_or _ _) ?_
              refine W_nil ?_
              exact N_step rfl rfl (by first | exact Below.refl _ _ | assumption)
          intro w28 vq hB28 hH
          have hq28 := hB28.size
          clear hH
          replace hL := hL.call hB28
          replace hp := hp.ext hB28
          refine W_index_arr0 i rfl Go.Proofs.Try.underlying98 Ty.cells94 Ty.info94 rfl rfl rfl (by omega) ?_
          refine W_store_cell 0 rfl rfl hL rfl Ty.cells94 Ty.info94 rfl rfl (by rw [List.length_map, padsP_len _ _ _ (by omega)]; omega) ?_
          intro w29 hU29 hL
          have hu29 := hU29.size
          replace hp := hp.upd hU29 (by omega)
          refine W_nil ?_
          refine N_block ?_
          refine N_code ?_
          refine C_region ?_
          refine W_move rfl rfl ?_
          refine W_add rfl rfl rfl (i64_id (by omega) (by omega)) ?_
          refine W_assign rfl rfl ?_
          refine W_nil ?_
          exact N_again (j + 1) ⟨by rw [← padsP_step ((padL bs).drop ((padL bs).length - 64 * n)) i j (by omega) (by omega) _ (show (padL bs).getD ((padL bs).length - 64 * n + 4 * i + j) 0 = _ by rw [drop_get, Nat.add_assoc])]; exact hL, hp, by omega, by omega⟩ ⟨rfl, rfl, rfl, rfl, rfl, rfl, rfl, look_int rfl (by omega), trivial⟩ (by omega)
        · have hc38 := of_decide_eq_false hc38
          refine C_exit _ rfl ?_
          refine N_code ?_
          refine C_exit _ rfl ?_
          refine N_code ?_
          refine C_region ?_
          refine W_move rfl rfl ?_
          refine W_add rfl rfl rfl (i64_id (by omega) (by omega)) ?_
          refine W_assign rfl rfl ?_
          refine W_nil ?_
          have hj4 : j = 4 := by omega
          subst hj4
          exact N_again (i + 1) ⟨by rw [← padsP_four ((padL bs).drop ((padL bs).length - 64 * n)) i (by omega)]; exact hL, hp, by omega, by omega⟩ ⟨rfl, rfl, rfl, rfl, rfl, rfl, look_int rfl (by omega), trivial⟩ (by omega)
      · have hc36 := of_decide_eq_false hc36
        refine C_skip ?_
        refine N_code ?_
        refine C_seq ?_
        apply C_draw 9 [[], [0], [1], [2], [], [4], [5], [6], [3]] [.val _, .val _, .val _, .val _, .val _, .val _, .val _, .val _, .val _] Ty.mixed rfl rfl (by kernel_rfl) (by kernel_rfl) rfl
        · refine ⟨?_, ?_, ?_, ?_, ?_, ?_, ?_, ?_, ?_,  trivial⟩
          · intro w30 vq hB30 hH
            have hL := hL.call hB30
            have hp := hp.ext hB30
            refine W_move rfl rfl ?_
            refine W_nil ?_
            exact N_step rfl rfl (by first | exact Below.refl _ _ | assumption)
          · intro w31 vq hB31 hH
            have hL := hL.call hB31
            have hp := hp.ext hB31
            refine W_subi rfl rfl rfl (i64_id (by omega) (by omega)) ?_
            refine W_nil ?_
            exact N_step rfl rfl (by first | exact Below.refl _ _ | assumption)
          · intro w32 vq hB32 hH
            have hL := hL.call hB32
            have hp := hp.ext hB32
            refine W_index_arr0 (i - 15) rfl Go.Proofs.Try.underlying98 Ty.cells94 Ty.info94 rfl rfl (by omega) (by omega) ?_
            refine W_nil ?_
            exact N_step rfl rfl (by first | exact Below.refl _ _ | assumption)
          · intro w33 vq hB33 hH
            have hL := hL.call hB33
            have hp := hp.ext hB33
            refine W_load_cell 0 rfl Ty.cell94 rfl hL rfl (mapW_get (by first | omega | (simp; omega))) ?_
            refine W_nil ?_
            exact N_step rfl rfl (by first | exact Below.refl _ _ | assumption)
          · intro w34 vq hB34 hH
            have hL := hL.call hB34
            have hp := hp.ext hB34
            refine W_move rfl rfl ?_
            refine W_nil ?_
            exact N_step rfl rfl (by first | exact Below.refl _ _ | assumption)
          · intro w35 vq hB35 hH
            have hL := hL.call hB35
            have hp := hp.ext hB35
            refine W_subi rfl rfl rfl (i64_id (by omega) (by omega)) ?_
            refine W_nil ?_
            exact N_step rfl rfl (by first | exact Below.refl _ _ | assumption)
          · intro w36 vq hB36 hH
            have hL := hL.call hB36
            have hp := hp.ext hB36
            refine W_index_arr0 (i - 2) rfl Go.Proofs.Try.underlying98 Ty.cells94 Ty.info94 rfl rfl (by omega) (by omega) ?_
            refine W_nil ?_
            exact N_step rfl rfl (by first | exact Below.refl _ _ | assumption)
          · intro w37 vq hB37 hH
            have hL := hL.call hB37
            have hp := hp.ext hB37
            refine W_load_cell 0 rfl Ty.cell94 rfl hL rfl (mapW_get (by first | omega | (simp; omega))) ?_
            refine W_nil ?_
            exact N_step rfl rfl (by first | exact Below.refl _ _ | assumption)
          · intro w38 vq hB38 hH
            have hq38 := hB38.size
            have hL := hL.call hB38
            have hp := hp.ext hB38
            refine W_assign rfl rfl ?_
            refine W_nil ?_
            exact N_step rfl rfl (by first | exact Below.refl _ _ | assumption)
        intro w39 vq hB39 hH
        have hq39 := hB39.size
        clear hH
        replace hL := hL.call hB39
        replace hp := hp.ext hB39
        refine W_assign rfl rfl ?_
        refine W_nil ?_
        refine N_code ?_
        apply C_draw 28 [[], [], [1], [2], [3], [], [5], [6], [7], [4, 8], [], [10], [], [12], [11, 13], [], [15], [14, 16], [9, 17], [], [19], [], [21], [20, 22], [], [24], [23, 25], [18, 26]] [.val _, .val _, .val _, .val _, .val _, .val _, .val _, .val _, .val _, .val _, .val _, .val _, .val _, .val _, .val _, .val _, .val _, .val _, .val _, .val _, .val _, .val _, .val _, .val _, .val _, .val _, .val _, .val _] Ty.mixed rfl rfl (by kernel_rfl) (by kernel_rfl) rfl
        · refine ⟨?_, ?_, ?_, ?_, ?_, ?_, ?_, ?_, ?_, ?_, ?_, ?_, ?_, ?_, ?_, ?_, ?_, ?_, ?_, ?_, ?_, ?_, ?_, ?_, ?_, ?_, ?_, ?_,  trivial⟩
          · intro w40 vq hB40 hH
            have hL := hL.call hB40
            have hp := hp.ext hB40
            refine W_move rfl rfl ?_
            refine W_nil ?_
            exact N_step rfl rfl (by first | exact Below.refl _ _ | assumption)
          · intro w41 vq hB41 hH
            have hL := hL.call hB41
            have hp := hp.ext hB41
            refine W_move rfl rfl ?_
            refine W_nil ?_
            exact N_step rfl rfl (by first | exact Below.refl _ _ | assumption)
          · intro w42 vq hB42 hH
            have hL := hL.call hB42
            have hp := hp.ext hB42
            refine W_subi rfl rfl rfl (i64_id (by omega) (by omega)) ?_
            refine W_nil ?_
            exact N_step rfl rfl (by first | exact Below.refl _ _ | assumption)
          · intro w43 vq hB43 hH
            have hL := hL.call hB43
            have hp := hp.ext hB43
            refine W_index_arr0 (i - 16) rfl Go.Proofs.Try.underlying98 Ty.cells94 Ty.info94 rfl rfl (by omega) (by omega) ?_
            refine W_nil ?_
            exact N_step rfl rfl (by first | exact Below.refl _ _ | assumption)
          · intro w44 vq hB44 hH
            have hL := hL.call hB44
            have hp := hp.ext hB44
            refine W_load_cell 0 rfl Ty.cell94 rfl hL rfl (mapW_get (by first | omega | (simp; omega))) ?_
            refine W_nil ?_
            exact N_step rfl rfl (by first | exact Below.refl _ _ | assumption)
          · intro w45 vq hB45 hH
            have hL := hL.call hB45
            have hp := hp.ext hB45
            refine W_move rfl rfl ?_
            refine W_nil ?_
            exact N_step rfl rfl (by first | exact Below.refl _ _ | assumption)
          · intro w46 vq hB46 hH
            have hL := hL.call hB46
            have hp := hp.ext hB46
            refine W_subi rfl rfl rfl (i64_id (by omega) (by omega)) ?_
            refine W_nil ?_
            exact N_step rfl rfl (by first | exact Below.refl _ _ | assumption)
          · intro w47 vq hB47 hH
            have hL := hL.call hB47
            have hp := hp.ext hB47
            refine W_index_arr0 (i - 7) rfl Go.Proofs.Try.underlying98 Ty.cells94 Ty.info94 rfl rfl (by omega) (by omega) ?_
            refine W_nil ?_
            exact N_step rfl rfl (by first | exact Below.refl _ _ | assumption)
          · intro w48 vq hB48 hH
            have hL := hL.call hB48
            have hp := hp.ext hB48
            refine W_load_cell 0 rfl Ty.cell94 rfl hL rfl (mapW_get (by first | omega | (simp; omega))) ?_
            refine W_nil ?_
            exact N_step rfl rfl (by first | exact Below.refl _ _ | assumption)
          · intro w49 vq hB49 hH
            have hL := hL.call hB49
            have hp := hp.ext hB49
            refine W_add rfl rfl rfl (u32_add _ _) ?_
            refine W_nil ?_
            exact N_step rfl rfl (by first | exact Below.refl _ _ | assumption)
          · intro w50 vq hB50 hH
            have hL := hL.call hB50
            have hp := hp.ext hB50
            refine W_move rfl rfl ?_
            refine W_nil ?_
            exact N_step rfl rfl (by first | exact Below.refl _ _ | assumption)
          · intro w51 vq hB51 hH
            have hq51 := hB51.size
            have hL := hL.call hB51
            have hp := hp.ext hB51
            refine W_call rfl Ty.named103 rfl (rot32_ret 7 _ _ _ rfl (by omega) (by omega)) ?_
            rintro v w52 ⟨rfl, rfl⟩
            refine W_nil ?_
            exact N_step rfl rfl (by first | exact Below.refl _ _ | assumption)
          · intro w53 vq hB53 hH
            have hL := hL.call hB53
            have hp := hp.ext hB53
            refine W_move rfl rfl ?_
            refine W_nil ?_
            exact N_step rfl rfl (by first | exact Below.refl _ _ | assumption)
          · intro w54 vq hB54 hH
            have hq54 := hB54.size
            have hL := hL.call hB54
            have hp := hp.ext hB54
            refine W_call rfl Ty.named103 rfl (rot32_ret 18 _ _ _ rfl (by omega) (by omega)) ?_
            rintro v w55 ⟨rfl, rfl⟩
            refine W_nil ?_
            exact N_step rfl rfl (by first | exact Below.refl _ _ | assumption)
          · intro w56 vq hB56 hH
            have hL := hL.call hB56
            have hp := hp.ext hB56
            refine W_bits (by simp) rfl rfl rfl (u32_xor _ _) ?_
            refine W_nil ?_
            exact N_step rfl rfl (by first | exact Below.refl _ _ | assumption)
          · intro w57 vq hB57 hH
            have hL := hL.call hB57
            have hp := hp.ext hB57
            refine W_move rfl rfl ?_
            refine W_nil ?_
            exact N_step rfl rfl (by first | exact Below.refl _ _ | assumption)
          · intro w58 vq hB58 hH
            have hL := hL.call hB58
            have hp := hp.ext hB58
            refine W_shr rfl rfl rfl (by decide) (by decide) (u32_shr _ _ 3 rfl (by decide)) ?_
            refine W_nil ?_
            exact N_step rfl rfl (by first | exact Below.refl _ _ | assumption)
          · intro w59 vq hB59 hH
            have hL := hL.call hB59
            have hp := hp.ext hB59
            refine W_bits (by simp) rfl rfl rfl (u32_xor _ _) ?_
            refine W_nil ?_
            exact N_step rfl rfl (by first | exact Below.refl _ _ | assumption)
          · intro w60 vq hB60 hH
            have hL := hL.call hB60
            have hp := hp.ext hB60
            refine W_add rfl rfl rfl (u32_add _ _) ?_
            refine W_nil ?_
            exact N_step rfl rfl (by first | exact Below.refl _ _ | assumption)
          · intro w61 vq hB61 hH
            have hL := hL.call hB61
            have hp := hp.ext hB61
            refine W_move rfl rfl ?_
            refine W_nil ?_
            exact N_step rfl rfl (by first | exact Below.refl _ _ | assumption)
          · intro w62 vq hB62 hH
            have hq62 := hB62.size
            have hL := hL.call hB62
            have hp := hp.ext hB62
            refine W_call rfl Ty.named103 rfl (rot32_ret 17 _ _ _ rfl (by omega) (by omega)) ?_
            rintro v w63 ⟨rfl, rfl⟩
            refine W_nil ?_
            exact N_step rfl rfl (by first | exact Below.refl _ _ | assumption)
          · intro w64 vq hB64 hH
            have hL := hL.call hB64
            have hp := hp.ext hB64
            refine W_move rfl rfl ?_
            refine W_nil ?_
            exact N_step rfl rfl (by first | exact Below.refl _ _ | assumption)
          · intro w65 vq hB65 hH
            have hq65 := hB65.size
            have hL := hL.call hB65
            have hp := hp.ext hB65
            refine W_call rfl Ty.named103 rfl (rot32_ret 19 _ _ _ rfl (by omega) (by omega)) ?_
            rintro v w66 ⟨rfl, rfl⟩
            refine W_nil ?_
            exact N_step rfl rfl (by first | exact Below.refl _ _ | assumption)
          · intro w67 vq hB67 hH
            have hL := hL.call hB67
            have hp := hp.ext hB67
            refine W_bits (by simp) rfl rfl rfl (u32_xor _ _) ?_
            refine W_nil ?_
            exact N_step rfl rfl (by first | exact Below.refl _ _ | assumption)
          · intro w68 vq hB68 hH
            have hL := hL.call hB68
            have hp := hp.ext hB68
            refine W_move rfl rfl ?_
            refine W_nil ?_
            exact N_step rfl rfl (by first | exact Below.refl _ _ | assumption)
          · intro w69 vq hB69 hH
            have hL := hL.call hB69
            have hp := hp.ext hB69
            refine W_shr rfl rfl rfl (by decide) (by decide) (u32_shr _ _ 10 rfl (by decide)) ?_
            refine W_nil ?_
            exact N_step rfl rfl (by first | exact Below.refl _ _ | assumption)
          · intro w70 vq hB70 hH
            have hL := hL.call hB70
            have hp := hp.ext hB70
            refine W_bits (by simp) rfl rfl rfl (u32_xor _ _) ?_
            refine W_nil ?_
            exact N_step rfl rfl (by first | exact Below.refl _ _ | assumption)
          · intro w71 vq hB71 hH
            have hL := hL.call hB71
            have hp := hp.ext hB71
            refine W_add rfl rfl rfl (u32_add _ _) ?_
            refine W_nil ?_
            exact N_step rfl rfl (by first | exact Below.refl _ _ | assumption)
        intro w72 vq hB72 hH
        have hq72 := hB72.size
        clear hH
        replace hL := hL.call hB72
        replace hp := hp.ext hB72
        refine W_index_arr0 i rfl Go.Proofs.Try.underlying98 Ty.cells94 Ty.info94 rfl rfl rfl (by omega) ?_
        refine W_store_cell 0 rfl rfl hL rfl Ty.cells94 Ty.info94 rfl rfl (by rw [List.length_map, pads_len _ _ (by omega)]; omega) ?_
        intro w73 hU73 hL
        have hu73 := hU73.size
        replace hp := hp.upd hU73 (by omega)
        refine W_nil ?_
        refine N_block ?_
        refine N_code ?_
        refine C_region ?_
        refine W_move rfl rfl ?_
        refine W_add rfl rfl rfl (i64_id (by omega) (by omega)) ?_
        refine W_assign rfl rfl ?_
        refine W_nil ?_
        exact N_again (i + 1) ⟨by rw [← pads_step ((padL bs).drop ((padL bs).length - 64 * n)) i (by omega) _ ((nextW_alt _ i).trans ((nextW_pads ((padL bs).drop ((padL bs).length - 64 * n)) i (by omega)).trans (if_neg (show ¬ i < 16 by omega)).symm))]; exact hL, hp, by omega, by omega⟩ ⟨rfl, rfl, rfl, rfl, rfl, rfl, look_int rfl (by omega), trivial⟩ (by omega)
    · have hc32 := of_decide_eq_false hc32
      refine C_exit _ rfl ?_
      refine N_code ?_
      refine C_seq ?_
      refine C_region ?_
      refine W_load_all 1 rfl Go.Proofs.Try.underlying95 rfl rfl hL rfl (by rw [List.length_map, hhl]; exact Ty.size95) ?_
      refine W_alloc rfl Ty.zero95 ?_
      intro gv w74 hgv hsz74 hB74 hb74
      replace hL := hL.cons hB74 (by omega) (by omega) hb74
      replace hp := hp.ext hB74
      refine W_store_all 0 rfl rfl hL rfl (by rw [List.length_map, hhl]; exact Ty.size95) (by first | exact oneW _ | exact oneB _ | exact fun u hu => (oneCells_spec _ rfl u hu).2) (by rw [List.length_map, hhl]; rfl) ?_
      intro w75 hU75 hL
      have hu75 := hU75.size
      replace hp := hp.upd hU75 (by omega)
      refine W_nil ?_
      refine N_code ?_
      refine C_seq ?_
      refine C_seq ?_
      refine C_region ?_
      refine W_assign rfl rfl ?_
      refine W_nil ?_
      refine N_code ?_
      refine C_block ?_
      have hgvp : phi ≤ gv := by omega
      have hi64 : i = 64 := by omega
      subst hi64
      rw [pads_all] at hL
      refine C_loop (fun (x : Nat) wr => Led w.heap.size w wr [(gv, 95, (rnds (sched ((padL bs).drop ((padL bs).length - 64 * n)) 64) hh x).map cW), (gw, 98, (sched ((padL bs).drop ((padL bs).length - 64 * n)) 64).map cW), (gh, 95, hh.map cW), (gk, 98, K256.map cW), (gr, 57, (List.replicate 32 (0 : UInt8)).map cB)] ∧ Sl plo phi wr.heap 1 encB zp (padL bs) ∧ gv < wr.heap.size ∧ x ≤ 64) (fun x => [(2, pl gr 0), (3, pl gk 0), (4, pl gh 0), (5, zp), (6, .int .i64 (((padL bs).length - 64 * n : Nat) : Int)), (7, pl gw 0), (12, pl gv 0), (13, .int .i64 (x : Int))]) (fun x => 64 - x) (0) ?_ ?_ ?_
      · exact ⟨hL, hp, by omega, by omega⟩
      · exact ⟨rfl, rfl, rfl, rfl, rfl, rfl, rfl, rfl, trivial⟩
      rintro i w76 ⟨hL, hp, hgv2, hi⟩
      have hvl := rnds_len (sched ((padL bs).drop ((padL bs).length - 64 * n)) 64) hh hhl i
      have hwl := sched_len ((padL bs).drop ((padL bs).length - 64 * n)) 64
      refine C_seq ?_
      refine C_seq ?_
      refine C_region ?_
      refine W_move rfl rfl ?_
      refine W_lss rfl rfl rfl ?_
      refine W_nil ?_
      refine N_code ?_
      refine C_cond rfl (fun hc97 => ?_) (fun hc97 => ?_)
      · have hc97 := of_decide_eq_true hc97
        refine C_skip ?_
        refine N_code ?_
        refine C_seq ?_
        refine C_block ?_
        refine C_seq ?_
        apply C_draw 5 [[], [0], [], [2], [1]] [.val _, .val _, .val _, .val _, .val _] Ty.mixed rfl rfl (by kernel_rfl) (by kernel_rfl) rfl
        · refine ⟨?_, ?_, ?_, ?_, ?_,  trivial⟩
          · intro w77 vq hB77 hH
            have hL := hL.call hB77
            have hp := hp.ext hB77
            refine W_index_arr0 0 rfl Go.Proofs.Try.underlying95 Ty.cells94 Ty.info94 rfl rfl rfl (by omega) ?_
            refine W_nil ?_
            exact N_step rfl rfl (by first | exact Below.refl _ _ | assumption)
          · intro w78 vq hB78 hH
            have hL := hL.call hB78
            have hp := hp.ext hB78
            refine W_load_cell 0 rfl Ty.cell94 rfl hL rfl (mapW_get (by first | omega | (simp; omega))) ?_
            refine W_nil ?_
            exact N_step rfl rfl (by first | exact Below.refl _ _ | assumption)
          · intro w79 vq hB79 hH
            have hL := hL.call hB79
            have hp := hp.ext hB79
            refine W_index_arr0 4 rfl Go.Proofs.Try.underlying95 Ty.cells94 Ty.info94 rfl rfl rfl (by omega) ?_
            refine W_nil ?_
            exact N_step rfl rfl (by first | exact Below.refl _ _ | assumption)
          · intro w80 vq hB80 hH
            have hL := hL.call hB80
            have hp := hp.ext hB80
            refine W_load_cell 0 rfl Ty.cell94 rfl hL rfl (mapW_get (by first | omega | (simp; omega))) ?_
            refine W_nil ?_
            exact N_step rfl rfl (by first | exact Below.refl _ _ | assumption)
          · intro w81 vq hB81 hH
            have hq81 := hB81.size
            have hL := hL.call hB81
            have hp := hp.ext hB81
            refine W_assign rfl rfl ?_
            refine W_nil ?_
            exact N_step rfl rfl (by first | exact Below.refl _ _ | assumption)
        intro w82 vq hB82 hH
        have hq82 := hB82.size
        clear hH
        replace hL := hL.call hB82
        replace hp := hp.ext hB82
        refine W_assign rfl rfl ?_
        refine W_nil ?_
        refine N_code ?_
        refine C_seq ?_
        apply C_draw 30 [[], [0], [], [2], [], [4], [3, 5], [], [7], [6, 8], [1, 9], [], [], [12], [11, 13], [], [15], [], [17], [16, 18], [14, 19], [10, 20], [], [22], [23], [21, 24], [], [26], [27], [25, 28]] [.val _, .val _, .val _, .val _, .val _, .val _, .val _, .val _, .val _, .val _, .val _, .val _, .val _, .val _, .val _, .val _, .val _, .val _, .val _, .val _, .val _, .val _, .val _, .val _, .val _, .val _, .val _, .val _, .val _, .val _] Ty.mixed rfl rfl (by kernel_rfl) (by kernel_rfl) rfl
        · refine ⟨?_, ?_, ?_, ?_, ?_, ?_, ?_, ?_, ?_, ?_, ?_, ?_, ?_, ?_, ?_, ?_, ?_, ?_, ?_, ?_, ?_, ?_, ?_, ?_, ?_, ?_, ?_, ?_, ?_, ?_,  trivial⟩
          · intro w83 vq hB83 hH
            have hL := hL.call hB83
            have hp := hp.ext hB83
            refine W_index_arr0 7 rfl Go.Proofs.Try.underlying95 Ty.cells94 Ty.info94 rfl rfl rfl (by omega) ?_
            refine W_nil ?_
            exact N_step rfl rfl (by first | exact Below.refl _ _ | assumption)
          · intro w84 vq hB84 hH
            have hL := hL.call hB84
            have hp := hp.ext hB84
            refine W_load_cell 0 rfl Ty.cell94 rfl hL rfl (mapW_get (by first | omega | (simp; omega))) ?_
            refine W_nil ?_
            exact N_step rfl rfl (by first | exact Below.refl _ _ | assumption)
          · intro w85 vq hB85 hH
            have hL := hL.call hB85
            have hp := hp.ext hB85
            refine W_move rfl rfl ?_
            refine W_nil ?_
            exact N_step rfl rfl (by first | exact Below.refl _ _ | assumption)
          · intro w86 vq hB86 hH
            have hq86 := hB86.size
            have hL := hL.call hB86
            have hp := hp.ext hB86
            refine W_call rfl Ty.named103 rfl (rot32_ret 6 _ _ _ rfl (by omega) (by omega)) ?_
            rintro v w87 ⟨rfl, rfl⟩
            refine W_nil ?_
            exact N_step rfl rfl (by first | exact Below.refl _ _ | assumption)
          · intro w88 vq hB88 hH
            have hL := hL.call hB88
            have hp := hp.ext hB88
            refine W_move rfl rfl ?_
            refine W_nil ?_
            exact N_step rfl rfl (by first | exact Below.refl _ _ | assumption)
          · intro w89 vq hB89 hH
            have hq89 := hB89.size
            have hL := hL.call hB89
            have hp := hp.ext hB89
            refine W_call rfl Ty.named103 rfl (rot32_ret 11 _ _ _ rfl (by omega) (by omega)) ?_
            rintro v w90 ⟨rfl, rfl⟩
            refine W_nil ?_
            exact N_step rfl rfl (by first | exact Below.refl _ _ | assumption)
          · intro w91 vq hB91 hH
            have hL := hL.call hB91
            have hp := hp.ext hB91
            refine W_bits (by simp) rfl rfl rfl (u32_xor _ _) ?_
            refine W_nil ?_
            exact N_step rfl rfl (by first | exact Below.refl _ _ | assumption)
          · intro w92 vq hB92 hH
            have hL := hL.call hB92
            have hp := hp.ext hB92
            refine W_move rfl rfl ?_
            refine W_nil ?_
            exact N_step rfl rfl (by first | exact Below.refl _ _ | assumption)
          · intro w93 vq hB93 hH
            have hq93 := hB93.size
            have hL := hL.call hB93
            have hp := hp.ext hB93
            refine W_call rfl Ty.named103 rfl (rot32_ret 25 _ _ _ rfl (by omega) (by omega)) ?_
            rintro v w94 ⟨rfl, rfl⟩
            refine W_nil ?_
            exact N_step rfl rfl (by first | exact Below.refl _ _ | assumption)
          · intro w95 vq hB95 hH
            have hL := hL.call hB95
            have hp := hp.ext hB95
            refine W_bits (by simp) rfl rfl rfl (u32_xor _ _) ?_
            refine W_nil ?_
            exact N_step rfl rfl (by first | exact Below.refl _ _ | assumption)
          · intro w96 vq hB96 hH
            have hL := hL.call hB96
            have hp := hp.ext hB96
            refine W_add rfl rfl rfl (u32_add _ _) ?_
            refine W_nil ?_
            exact N_step rfl rfl (by first | exact Below.refl _ _ | assumption)
          · intro w97 vq hB97 hH
            have hL := hL.call hB97
            have hp := hp.ext hB97
            refine W_move rfl rfl ?_
            refine W_nil ?_
            exact N_step rfl rfl (by first | exact Below.refl _ _ | assumption)
          · intro w98 vq hB98 hH
            have hL := hL.call hB98
            have hp := hp.ext hB98
            refine W_index_arr0 5 rfl Go.Proofs.Try.underlying95 Ty.cells94 Ty.info94 rfl rfl rfl (by omega) ?_
            refine W_nil ?_
            exact N_step rfl rfl (by first | exact Below.refl _ _ | assumption)
          · intro w99 vq hB99 hH
            have hL := hL.call hB99
            have hp := hp.ext hB99
            refine W_load_cell 0 rfl Ty.cell94 rfl hL rfl (mapW_get (by first | omega | (simp; omega))) ?_
            refine W_nil ?_
            exact N_step rfl rfl (by first | exact Below.refl _ _ | assumption)
          · intro w100 vq hB100 hH
            have hL := hL.call hB100
            have hp := hp.ext hB100
            refine W_bits (by simp) rfl rfl rfl (u32_and _ _) ?_
            refine W_nil ?_
            exact N_step rfl rfl (by first | exact Below.refl _ _ | assumption)
          · intro w101 vq hB101 hH
            have hL := hL.call hB101
            have hp := hp.ext hB101
            refine W_move rfl rfl ?_
            refine W_nil ?_
            exact N_step rfl rfl (by first | exact Below.refl _ _ | assumption)
          · intro w102 vq hB102 hH
            have hq102 := hB102.size
            have hL := hL.call hB102
            have hp := hp.ext hB102
            refine W_compl rfl rfl (u32_not _) ?_
            refine W_nil ?_
            exact N_step rfl rfl (by first | exact Below.refl _ _ | assumption)
          · intro w103 vq hB103 hH
            have hL := hL.call hB103
            have hp := hp.ext hB103
            refine W_index_arr0 6 rfl Go.Proofs.Try.underlying95 Ty.cells94 Ty.info94 rfl rfl rfl (by omega) ?_
            refine W_nil ?_
            exact N_step rfl rfl (by first | exact Below.refl _ _ | assumption)
          · intro w104 vq hB104 hH
            have hL := hL.call hB104
            have hp := hp.ext hB104
            refine W_load_cell 0 rfl Ty.cell94 rfl hL rfl (mapW_get (by first | omega | (simp; omega))) ?_
            refine W_nil ?_
            exact N_step rfl rfl (by first | exact Below.refl _ _ | assumption)
          · intro w105 vq hB105 hH
            have hL := hL.call hB105
            have hp := hp.ext hB105
            refine W_bits (by simp) rfl rfl rfl (u32_and _ _) ?_
            refine W_nil ?_
            exact N_step rfl rfl (by first | exact Below.refl _ _ | assumption)
          · intro w106 vq hB106 hH
            have hL := hL.call hB106
            have hp := hp.ext hB106
            refine W_bits (by simp) rfl rfl rfl (u32_xor _ _) ?_
            refine W_nil ?_
            exact N_step rfl rfl (by first | exact Below.refl _ _ | assumption)
          · intro w107 vq hB107 hH
            have hL := hL.call hB107
            have hp := hp.ext hB107
            refine W_add rfl rfl rfl (u32_add _ _) ?_
            refine W_nil ?_
            exact N_step rfl rfl (by first | exact Below.refl _ _ | assumption)
          · intro w108 vq hB108 hH
            have hL := hL.call hB108
            have hp := hp.ext hB108
            refine W_move rfl rfl ?_
            refine W_nil ?_
            exact N_step rfl rfl (by first | exact Below.refl _ _ | assumption)
          · intro w109 vq hB109 hH
            have hL := hL.call hB109
            have hp := hp.ext hB109
            refine W_index_arr0 i rfl Go.Proofs.Try.underlying98 Ty.cells94 Ty.info94 rfl rfl rfl (by omega) ?_
            refine W_nil ?_
            exact N_step rfl rfl (by first | exact Below.refl _ _ | assumption)
          · intro w110 vq hB110 hH
            have hL := hL.call hB110
            have hp := hp.ext hB110
            refine W_load_cell 3 rfl Ty.cell94 rfl hL rfl (mapW_get (by rw [K256_len]; omega)) ?_
            refine W_nil ?_
            exact N_step rfl rfl (by first | exact Below.refl _ _ | assumption)
          · intro w111 vq hB111 hH
            have hL := hL.call hB111
            have hp := hp.ext hB111
            refine W_add rfl rfl rfl (u32_add _ _) ?_
            refine W_nil ?_
            exact N_step rfl rfl (by first | exact Below.refl _ _ | assumption)
          · intro w112 vq hB112 hH
            have hL := hL.call hB112
            have hp := hp.ext hB112
            refine W_move rfl rfl ?_
            refine W_nil ?_
            exact N_step rfl rfl (by first | exact Below.refl _ _ | assumption)
          · intro w113 vq hB113 hH
            have hL := hL.call hB113
            have hp := hp.ext hB113
            refine W_index_arr0 i rfl Go.Proofs.Try.underlying98 Ty.cells94 Ty.info94 rfl rfl rfl (by omega) ?_
            refine W_nil ?_
            exact N_step rfl rfl (by first | exact Below.refl _ _ | assumption)
          · intro w114 vq hB114 hH
            have hL := hL.call hB114
            have hp := hp.ext hB114
            refine W_load_cell 1 rfl Ty.cell94 rfl hL rfl (mapW_get (by first | omega | (simp; omega))) ?_
            refine W_nil ?_
            exact N_step rfl rfl (by first | exact Below.refl _ _ | assumption)
          · intro w115 vq hB115 hH
            have hL := hL.call hB115
            have hp := hp.ext hB115
            refine W_add rfl rfl rfl (u32_add _ _) ?_
            refine W_nil ?_
            exact N_step rfl rfl (by first | exact Below.refl _ _ | assumption)
        intro w116 vq hB116 hH
        have hq116 := hB116.size
        clear hH
        replace hL := hL.call hB116
        replace hp := hp.ext hB116
        refine W_assign rfl rfl ?_
        refine W_nil ?_
        refine N_code ?_
        refine C_seq ?_
        apply C_draw 24 [[], [0], [], [2], [1, 3], [], [5], [4, 6], [], [], [9], [8, 10], [], [], [13], [12, 14], [11, 15], [], [17], [], [19], [18, 20], [16, 21], [7, 22]] [.val _, .val _, .val _, .val _, .val _, .val _, .val _, .val _, .val _, .val _, .val _, .val _, .val _, .val _, .val _, .val _, .val _, .val _, .val _, .val _, .val _, .val _, .val _, .val _] Ty.mixed rfl rfl (by kernel_rfl) (by kernel_rfl) rfl
        · refine ⟨?_, ?_, ?_, ?_, ?_, ?_, ?_, ?_, ?_, ?_, ?_, ?_, ?_, ?_, ?_, ?_, ?_, ?_, ?_, ?_, ?_, ?_, ?_, ?_,  trivial⟩
          · intro w117 vq hB117 hH
            have hL := hL.call hB117
            have hp := hp.ext hB117
            refine W_move rfl rfl ?_
            refine W_nil ?_
            exact N_step rfl rfl (by first | exact Below.refl _ _ | assumption)
          · intro w118 vq hB118 hH
            have hq118 := hB118.size
            have hL := hL.call hB118
            have hp := hp.ext hB118
            refine W_call rfl Ty.named103 rfl (rot32_ret 2 _ _ _ rfl (by omega) (by omega)) ?_
            rintro v w119 ⟨rfl, rfl⟩
            refine W_nil ?_
            exact N_step rfl rfl (by first | exact Below.refl _ _ | assumption)
          · intro w120 vq hB120 hH
            have hL := hL.call hB120
            have hp := hp.ext hB120
            refine W_move rfl rfl ?_
            refine W_nil ?_
            exact N_step rfl rfl (by first | exact Below.refl _ _ | assumption)
          · intro w121 vq hB121 hH
            have hq121 := hB121.size
            have hL := hL.call hB121
            have hp := hp.ext hB121
            refine W_call rfl Ty.named103 rfl (rot32_ret 13 _ _ _ rfl (by omega) (by omega)) ?_
            rintro v w122 ⟨rfl, rfl⟩
            refine W_nil ?_
            exact N_step rfl rfl (by first | exact Below.refl _ _ | assumption)
          · intro w123 vq hB123 hH
            have hL := hL.call hB123
            have hp := hp.ext hB123
            refine W_bits (by simp) rfl rfl rfl (u32_xor _ _) ?_
            refine W_nil ?_
            exact N_step rfl rfl (by first | exact Below.refl _ _ | assumption)
          · intro w124 vq hB124 hH
            have hL := hL.call hB124
            have hp := hp.ext hB124
            refine W_move rfl rfl ?_
            refine W_nil ?_
            exact N_step rfl rfl (by first | exact Below.refl _ _ | assumption)
          · intro w125 vq hB125 hH
            have hq125 := hB125.size
            have hL := hL.call hB125
            have hp := hp.ext hB125
            refine W_call rfl Ty.named103 rfl (rot32_ret 22 _ _ _ rfl (by omega) (by omega)) ?_
            rintro v w126 ⟨rfl, rfl⟩
            refine W_nil ?_
            exact N_step rfl rfl (by first | exact Below.refl _ _ | assumption)
          · intro w127 vq hB127 hH
            have hL := hL.call hB127
            have hp := hp.ext hB127
            refine W_bits (by simp) rfl rfl rfl (u32_xor _ _) ?_
            refine W_nil ?_
            exact N_step rfl rfl (by first | exact Below.refl _ _ | assumption)
          · intro w128 vq hB128 hH
            have hL := hL.call hB128
            have hp := hp.ext hB128
            refine W_move rfl rfl ?_
            refine W_nil ?_
            exact N_step rfl rfl (by first | exact Below.refl _ _ | assumption)
          · intro w129 vq hB129 hH
            have hL := hL.call hB129
            have hp := hp.ext hB129
            refine W_index_arr0 1 rfl Go.Proofs.Try.underlying95 Ty.cells94 Ty.info94 rfl rfl rfl (by omega) ?_
            refine W_nil ?_
            exact N_step rfl rfl (by first | exact Below.refl _ _ | assumption)
          · intro w130 vq hB130 hH
            have hL := hL.call hB130
            have hp := hp.ext hB130
            refine W_load_cell 0 rfl Ty.cell94 rfl hL rfl (mapW_get (by first | omega | (simp; omega))) ?_
            refine W_nil ?_
            exact N_step rfl rfl (by first | exact Below.refl _ _ | assumption)
          · intro w131 vq hB131 hH
            have hL := hL.call hB131
            have hp := hp.ext hB131
            refine W_bits (by simp) rfl rfl rfl (u32_and _ _) ?_
            refine W_nil ?_
            exact N_step rfl rfl (by first | exact Below.refl _ _ | assumption)
          · intro w132 vq hB132 hH
            have hL := hL.call hB132
            have hp := hp.ext hB132
            refine W_move rfl rfl ?_
            refine W_nil ?_
            exact N_step rfl rfl (by first | exact Below.refl _ _ | assumption)
          · intro w133 vq hB133 hH
            have hL := hL.call hB133
            have hp := hp.ext hB133
            refine W_index_arr0 2 rfl Go.Proofs.Try.underlying95 Ty.cells94 Ty.info94 rfl rfl rfl (by omega) ?_
            refine W_nil ?_
            exact N_step rfl rfl (by first | exact Below.refl _ _ | assumption)
          · intro w134 vq hB134 hH
            have hL := hL.call hB134
            have hp := hp.ext hB134
            refine W_load_cell 0 rfl Ty.cell94 rfl hL rfl (mapW_get (by first | omega | (simp; omega))) ?_
            refine W_nil ?_
            exact N_step rfl rfl (by first | exact Below.refl _ _ | assumption)
          · intro w135 vq hB135 hH
            have hL := hL.call hB135
            have hp := hp.ext hB135
            refine W_bits (by simp) rfl rfl rfl (u32_and _ _) ?_
            refine W_nil ?_
            exact N_step rfl rfl (by first | exact Below.refl _ _ | assumption)
          · intro w136 vq hB136 hH
            have hL := hL.call hB136
            have hp := hp.ext hB136
            refine W_bits (by simp) rfl rfl rfl (u32_xor _ _) ?_
            refine W_nil ?_
            exact N_step rfl rfl (by first | exact Below.refl _ _ | assumption)
          · intro w137 vq hB137 hH
            have hL := hL.call hB137
            have hp := hp.ext hB137
            refine W_index_arr0 1 rfl Go.Proofs.Try.underlying95 Ty.cells94 Ty.info94 rfl rfl rfl (by omega) ?_
            refine W_nil ?_
            exact N_step rfl rfl (by first | exact Below.refl _ _ | assumption)
          · intro w138 vq hB138 hH
            have hL := hL.call hB138
            have hp := hp.ext hB138
            refine W_load_cell 0 rfl Ty.cell94 rfl hL rfl (mapW_get (by first | omega | (simp; omega))) ?_
            refine W_nil ?_
            exact N_step rfl rfl (by first | exact Below.refl _ _ | assumption)
          · intro w139 vq hB139 hH
            have hL := hL.call hB139
            have hp := hp.ext hB139
            refine W_index_arr0 2 rfl Go.Proofs.Try.underlying95 Ty.cells94 Ty.info94 rfl rfl rfl (by omega) ?_
            refine W_nil ?_
            exact N_step rfl rfl (by first | exact Below.refl _ _ | assumption)
          · intro w140 vq hB140 hH
            have hL := hL.call hB140
            have hp := hp.ext hB140
            refine W_load_cell 0 rfl Ty.cell94 rfl hL rfl (mapW_get (by first | omega | (simp; omega))) ?_
            refine W_nil ?_
            exact N_step rfl rfl (by first | exact Below.refl _ _ | assumption)
          · intro w141 vq hB141 hH
            have hL := hL.call hB141
            have hp := hp.ext hB141
            refine W_bits (by simp) rfl rfl rfl (u32_and _ _) ?_
            refine W_nil ?_
            exact N_step rfl rfl (by first | exact Below.refl _ _ | assumption)
          · intro w142 vq hB142 hH
            have hL := hL.call hB142
            have hp := hp.ext hB142
            refine W_bits (by simp) rfl rfl rfl (u32_xor _ _) ?_
            refine W_nil ?_
            exact N_step rfl rfl (by first | exact Below.refl _ _ | assumption)
          · intro w143 vq hB143 hH
            have hL := hL.call hB143
            have hp := hp.ext hB143
            refine W_add rfl rfl rfl (u32_add _ _) ?_
            refine W_nil ?_
            exact N_step rfl rfl (by first | exact Below.refl _ _ | assumption)
        intro w144 vq hB144 hH
        have hq144 := hB144.size
        clear hH
        replace hL := hL.call hB144
        replace hp := hp.ext hB144
        refine W_assign rfl rfl ?_
        refine W_nil ?_
        refine N_code ?_
        refine C_region ?_
        refine W_move rfl rfl ?_
        refine W_move rfl rfl ?_
        refine W_add rfl rfl rfl (u32_add _ _) ?_
        refine W_index_arr0 0 rfl Go.Proofs.Try.underlying95 Ty.cells94 Ty.info94 rfl rfl rfl (by omega) ?_
        refine W_load_cell 0 rfl Ty.cell94 rfl hL rfl (mapW_get (by first | omega | (simp; omega))) ?_
        refine W_index_arr0 1 rfl Go.Proofs.Try.underlying95 Ty.cells94 Ty.info94 rfl rfl rfl (by omega) ?_
        refine W_load_cell 0 rfl Ty.cell94 rfl hL rfl (mapW_get (by first | omega | (simp; omega))) ?_
        refine W_index_arr0 2 rfl Go.Proofs.Try.underlying95 Ty.cells94 Ty.info94 rfl rfl rfl (by omega) ?_
        refine W_load_cell 0 rfl Ty.cell94 rfl hL rfl (mapW_get (by first | omega | (simp; omega))) ?_
        refine W_index_arr0 3 rfl Go.Proofs.Try.underlying95 Ty.cells94 Ty.info94 rfl rfl rfl (by omega) ?_
        refine W_load_cell 0 rfl Ty.cell94 rfl hL rfl (mapW_get (by first | omega | (simp; omega))) ?_
        refine W_move rfl rfl ?_
        refine W_add rfl rfl rfl (u32_add _ _) ?_
        refine W_index_arr0 4 rfl Go.Proofs.Try.underlying95 Ty.cells94 Ty.info94 rfl rfl rfl (by omega) ?_
        refine W_load_cell 0 rfl Ty.cell94 rfl hL rfl (mapW_get (by first | omega | (simp; omega))) ?_
        refine W_index_arr0 5 rfl Go.Proofs.Try.underlying95 Ty.cells94 Ty.info94 rfl rfl rfl (by omega) ?_
        refine W_load_cell 0 rfl Ty.cell94 rfl hL rfl (mapW_get (by first | omega | (simp; omega))) ?_
        refine W_index_arr0 6 rfl Go.Proofs.Try.underlying95 Ty.cells94 Ty.info94 rfl rfl rfl (by omega) ?_
        refine W_load_cell 0 rfl Ty.cell94 rfl hL rfl (mapW_get (by first | omega | (simp; omega))) ?_
        refine W_build_arr rfl Go.Proofs.Try.underlying95 Ty.cells94 Ty.info94 Ty.zero95 rfl rfl rfl rfl ?_
        refine W_store_all 0 rfl rfl hL rfl Ty.size95 (by first | exact oneW _ | exact oneB _ | exact fun u hu => (oneCells_spec _ rfl u hu).2) (by simp [hvl]) ?_
        intro w145 hU145 hL
        have hu145 := hU145.size
        replace hp := hp.upd hU145 (by omega)
        refine W_nil ?_
        refine N_block ?_
        refine N_code ?_
        refine C_region ?_
        refine W_move rfl rfl ?_
        refine W_add rfl rfl rfl (i64_id (by omega) (by omega)) ?_
        refine W_assign rfl rfl ?_
        refine W_nil ?_
        exact N_again (i + 1) ⟨hL, hp, by omega, by omega⟩ ⟨rfl, rfl, rfl, rfl, rfl, rfl, rfl, look_int rfl (by omega), trivial⟩ (by omega)
      · have hc97 := of_decide_eq_false hc97
        refine C_exit _ rfl ?_
        refine N_code ?_
        refine C_seq ?_
        refine C_region ?_
        refine W_assign rfl rfl ?_
        refine W_nil ?_
        refine N_code ?_
        refine C_block ?_
        have hi64 : i = 64 := by omega
        subst hi64
        refine C_loop (fun (x : Nat) wr => Led w.heap.size w wr [(gv, 95, (rnds (sched ((padL bs).drop ((padL bs).length - 64 * n)) 64) hh 64).map cW), (gw, 98, (sched ((padL bs).drop ((padL bs).length - 64 * n)) 64).map cW), (gh, 95, (mix hh (rnds (sched ((padL bs).drop ((padL bs).length - 64 * n)) 64) hh 64) x).map cW), (gk, 98, K256.map cW), (gr, 57, (List.replicate 32 (0 : UInt8)).map cB)] ∧ Sl plo phi wr.heap 1 encB zp (padL bs) ∧ phi ≤ wr.heap.size ∧ x ≤ 8) (fun x => [(2, pl gr 0), (3, pl gk 0), (4, pl gh 0), (5, zp), (6, .int .i64 (((padL bs).length - 64 * n : Nat) : Int)), (7, pl gw 0), (12, pl gv 0), (18, .int .i64 (x : Int))]) (fun x => 8 - x) (0) ?_ ?_ ?_
        · exact ⟨by rw [mix_zero _ _ hhl]; exact hL, hp, by omega, by omega⟩
        · exact ⟨rfl, rfl, rfl, rfl, rfl, rfl, rfl, rfl, trivial⟩
        rintro i w146 ⟨hL, hp, hphi3, hi⟩
        have hvl := rnds_len (sched ((padL bs).drop ((padL bs).length - 64 * n)) 64) hh hhl 64
        refine C_seq ?_
        refine C_seq ?_
        refine C_region ?_
        refine W_move rfl rfl ?_
        refine W_lss rfl rfl rfl ?_
        refine W_nil ?_
        refine N_code ?_
        refine C_cond rfl (fun hc179 => ?_) (fun hc179 => ?_)
        · have hc179 := of_decide_eq_true hc179
          refine C_skip ?_
          refine N_code ?_
          refine C_seq ?_
          refine C_block ?_
          apply C_draw 7 [[], [0], [1], [], [3], [4], [2, 5]] [.val _, .val _, .val _, .val _, .val _, .val _, .val _] Ty.mixed rfl rfl (by kernel_rfl) (by kernel_rfl) rfl
          · refine ⟨?_, ?_, ?_, ?_, ?_, ?_, ?_,  trivial⟩
            · intro w147 vq hB147 hH
              have hL := hL.call hB147
              have hp := hp.ext hB147
              refine W_move rfl rfl ?_
              refine W_nil ?_
              exact N_step rfl rfl (by first | exact Below.refl _ _ | assumption)
            · intro w148 vq hB148 hH
              have hL := hL.call hB148
              have hp := hp.ext hB148
              refine W_index_arr0 i rfl Go.Proofs.Try.underlying95 Ty.cells94 Ty.info94 rfl rfl rfl (by omega) ?_
              refine W_nil ?_
              exact N_step rfl rfl (by first | exact Below.refl _ _ | assumption)
            · intro w149 vq hB149 hH
              have hL := hL.call hB149
              have hp := hp.ext hB149
              refine W_load_cell 2 rfl Ty.cell94 rfl hL rfl (mapW_get (by rw [mix_len]; omega)) ?_
              refine W_nil ?_
              exact N_step rfl rfl (by first | exact Below.refl _ _ | assumption)
            · intro w150 vq hB150 hH
              have hL := hL.call hB150
              have hp := hp.ext hB150
              refine W_move rfl rfl ?_
              refine W_nil ?_
              exact N_step rfl rfl (by first | exact Below.refl _ _ | assumption)
            · intro w151 vq hB151 hH
              have hL := hL.call hB151
              have hp := hp.ext hB151
              refine W_index_arr0 i rfl Go.Proofs.Try.underlying95 Ty.cells94 Ty.info94 rfl rfl rfl (by omega) ?_
              refine W_nil ?_
              exact N_step rfl rfl (by first | exact Below.refl _ _ | assumption)
            · intro w152 vq hB152 hH
              have hL := hL.call hB152
              have hp := hp.ext hB152
              refine W_load_cell 0 rfl Ty.cell94 rfl hL rfl (mapW_get (by first | omega | (simp; omega))) ?_
              refine W_nil ?_
              exact N_step rfl rfl (by first | exact Below.refl _ _ | assumption)
            · intro w153 vq hB153 hH
              have hL := hL.call hB153
              have hp := hp.ext hB153
              refine W_add rfl rfl rfl (u32_add _ _) ?_
              refine W_nil ?_
              exact N_step rfl rfl (by first | exact Below.refl _ _ | assumption)
          intro w154 vq hB154 hH
          have hq154 := hB154.size
          clear hH
          replace hL := hL.call hB154
          replace hp := hp.ext hB154
          refine W_index_arr0 i rfl Go.Proofs.Try.underlying95 Ty.cells94 Ty.info94 rfl rfl rfl (by omega) ?_
          refine W_store_cell 2 rfl rfl hL rfl Ty.cells94 Ty.info94 rfl rfl (by rw [List.length_map, mix_len]; omega) ?_
          intro w155 hU155 hL
          have hu155 := hU155.size
          replace hp := hp.upd hU155 (by omega)
          refine W_nil ?_
          refine N_block ?_
          refine N_code ?_
          refine C_region ?_
          refine W_move rfl rfl ?_
          refine W_add rfl rfl rfl (i64_id (by omega) (by omega)) ?_
          refine W_assign rfl rfl ?_
          refine W_nil ?_
          exact N_again (i + 1) ⟨by rw [← mix_step hh (rnds (sched ((padL bs).drop ((padL bs).length - 64 * n)) 64) hh 64) i (by omega) _ rfl]; exact hL, hp, by omega, by omega⟩ ⟨rfl, rfl, rfl, rfl, rfl, rfl, rfl, look_int rfl (by omega), trivial⟩ (by omega)
        · have hc179 := of_decide_eq_false hc179
          refine C_exit _ rfl ?_
          refine N_block ?_
          refine N_code ?_
          refine C_region ?_
          refine W_move rfl rfl ?_
          refine W_add rfl rfl rfl (i64_id (by omega) (by omega)) ?_
          refine W_assign rfl rfl ?_
          refine W_nil ?_
          have hi8 : i = 8 := by omega
          subst hi8
          replace hL := hL.drop.drop
          obtain ⟨m, rfl⟩ : ∃ m, n = m + 1 := ⟨n - 1, by omega⟩
          exact N_again (m, blockL hh ((padL bs).drop ((padL bs).length - 64 * (m + 1)))) ⟨hL, hp, by omega, mix_len _ _ _, by show 64 * m ≤ _; omega, by rw [← hbl]; show blocks m _ _ = blocks m _ (List.drop 64 _); rw [List.drop_drop, show (padL bs).length - 64 * (m + 1) + 64 = (padL bs).length - 64 * m from by omega]⟩ ⟨rfl, rfl, rfl, rfl, look_int rfl (by show (((padL bs).length - 64 * (m + 1) : Nat) : Int) + 64 = (((padL bs).length - 64 * m : Nat) : Int); omega), trivial⟩ (by show m < m + 1; omega)
  · have hc28 := of_decide_eq_false hc28
    refine C_exit _ rfl ?_
    refine N_code ?_
    refine C_seq ?_
    refine C_region ?_
    refine W_alloc rfl Ty.zero57 ?_
    intro go w156 hgo hsz156 hB156 hb156
    replace hL := hL.cons hB156 (by omega) (by omega) hb156
    replace hp := hp.ext hB156
    refine W_nil ?_
    refine N_code ?_
    refine C_seq ?_
    refine C_seq ?_
    refine C_region ?_
    refine W_assign rfl rfl ?_
    refine W_nil ?_
    refine N_code ?_
    refine C_block ?_
    have hn0 : n = 0 := by omega
    subst hn0
    refine C_loop (fun (x : Nat) wr => Led w.heap.size w wr [(go, 57, (digs hh x).map cB), (gh, 95, hh.map cW), (gk, 98, K256.map cW), (gr, 57, (List.replicate 32 (0 : UInt8)).map cB)] ∧ x ≤ 32) (fun x => [(2, pl gr 0), (4, pl gh 0), (19, pl go 0), (20, .int .i64 (x : Int))]) (fun x => 32 - x) (0) ?_ ?_ ?_
    · exact ⟨hL, by omega⟩
    · exact ⟨rfl, rfl, rfl, rfl, trivial⟩
    rintro i w157 ⟨hL, hi⟩
    have hdl := digs_len hh i hi
    refine C_seq ?_
    refine C_seq ?_
    refine C_region ?_
    refine W_move rfl rfl ?_
    refine W_lss rfl rfl rfl ?_
    refine W_nil ?_
    refine N_code ?_
    refine C_cond rfl (fun hc191 => ?_) (fun hc191 => ?_)
    · have hc191 := of_decide_eq_true hc191
      refine C_skip ?_
      refine N_code ?_
      refine C_seq ?_
      refine C_block ?_
      refine C_region ?_
      refine W_move rfl rfl ?_
      refine W_move rfl rfl ?_
      refine W_quo rfl rfl rfl (by decide) (nat_tdiv _ 4 _ rfl (by omega)) ?_
      refine W_index_arr0 (i / 4) rfl Go.Proofs.Try.underlying95 Ty.cells94 Ty.info94 rfl rfl rfl (by omega) ?_
      refine W_load_cell 1 rfl Ty.cell94 rfl hL rfl (mapW_get (by first | omega | (simp; omega))) ?_
      refine W_move rfl rfl ?_
      refine W_rem rfl rfl rfl (by decide) (nat_tmod _ 4 _ rfl) ?_
      refine W_mul rfl rfl rfl (i64_id (by omega) (by omega)) ?_
      refine W_subi rfl rfl rfl (i64_id (by omega) (by omega)) ?_
      refine W_conv rfl rfl Ty.some3 Go.Proofs.Try.underlying24 (u64_of_int _ (24 - 8 * (i % 4)) (by omega)) ?_
      refine W_shr rfl rfl rfl (by omega) (by simp only [IntKind.bits, UInt64.toNat_ofNat']; omega) (u32_shr _ _ (24 - 8 * (i % 4)) (by simp only [UInt64.toNat_ofNat']; omega) (by omega)) ?_
      refine W_conv rfl rfl Ty.some94 Go.Proofs.Try.underlying5 (u32_u8 _) ?_
      refine W_index_arr0 i rfl Go.Proofs.Try.underlying57 Ty.cells5 Ty.info5 rfl rfl rfl (by omega) ?_
      refine W_store_cell 0 rfl rfl hL rfl Ty.cells5 Ty.info5 rfl rfl (by rw [List.length_map, digs_len _ _ (by omega)]; omega) ?_
      intro w158 hU158 hL
      have hu158 := hU158.size
      refine W_nil ?_
      refine N_block ?_
      refine N_code ?_
      refine C_region ?_
      refine W_move rfl rfl ?_
      refine W_add rfl rfl rfl (i64_id (by omega) (by omega)) ?_
      refine W_assign rfl rfl ?_
      refine W_nil ?_
      exact N_again (i + 1) ⟨by rw [← digs_step hh i (by omega)]; exact hL, by omega⟩ ⟨rfl, rfl, rfl, look_int rfl (by omega), trivial⟩ (by omega)
    · have hc191 := of_decide_eq_false hc191
      refine C_exit _ rfl ?_
      refine N_code ?_
      refine C_seq ?_
      refine C_region ?_
      refine W_load_all 0 rfl Go.Proofs.Try.underlying57 rfl rfl hL rfl (by rw [List.length_map, digs_len _ _ (by omega)]; exact Ty.size57) ?_
      refine W_store_all 3 rfl rfl hL rfl (by rw [List.length_map, digs_len _ _ (by omega)]; exact Ty.size57) (by first | exact oneW _ | exact oneB _ | exact fun u hu => (oneCells_spec _ rfl u hu).2) (by rw [List.length_map, digs_len _ _ (by omega)]; rfl) ?_
      intro w159 hU159 hL
      have hu159 := hU159.size
      refine W_nil ?_
      refine N_code ?_
      refine C_ret_cell 3 rfl rfl hL rfl Go.Proofs.Try.underlying57 rfl (by rw [List.length_map, digs_len _ _ (by omega)]; exact Ty.size57) ?_
      have hi32 : i = 32 := by omega
      subst hi32
      exact ⟨by unfold sha256; rw [← hbl]; rfl, hL.below⟩

end Go.Wk.Sha
