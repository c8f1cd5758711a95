import Derived.Test.YtoanecpanckkeaaLfB
namespace Go.Wk.Lf
open Go.Proofs Go.RowKit
set_option linter.unusedVariables false
set_option linter.unusedSimpArgs false
noncomputable section

def cellarerlaw05_TreeSame (x0 : List File) (x1 : List File) : Option Bool :=
  bd (cellarerlaw05_Heavy x0) fun r1 =>
  bd (only (!r1) (cellarerlaw05_Heavy x1) false) fun r2 =>
  if (r1 || r2) then
    some true
  else
    bd (tree_Same x0 x1) fun r10 =>
    bd (cellarerkeep_Files x0 x1) fun r11 =>
    bd (only (r10 == r11) (tree_Same x1 x0) false) fun r12 =>
    bd (only (r10 == r11) (tree_Same x0 x1) false) fun r13 =>
    bd (only ((r10 == r11) && (r12 == r13)) (tree_Same x0 x0) false) fun r14 =>
    bd (only (((r10 == r11) && (r12 == r13)) && r14) (cellarerlaw05_wakes) false) fun r15 =>
    some ((((r10 == r11) && (r12 == r13)) && r14) && r15)

theorem cellarerlaw05_TreeSame_ok {F : Frz} {w : World} {x0 : List File} {x1 : List File} {r : Bool} {v0 : Value} {v1 : Value} (hA : Agree F w.heap) (h0 : SlF File.t F v0 x0) (h1 : SlF File.t F v1 x1) (H : cellarerlaw05_TreeSame x0 x1 = some r) : Ret Try.prog 5 #[v0, v1] w fun v w' => ∃ (F' : Frz), v = .bool r ∧ St [] w F F' [] w' := by
 refine Ret_of (args := [v0, v1]) Go.Proofs.Try.func5 rfl rfl ?_
 change C _ _ _ _ [(0, v0), (1, v1)] _
 have hS := St.entry hA
 dsimp only [cellarerlaw05_TreeSame] at H
 refine C_seq ?_
 refine C_region ?_
 refine W_assign rfl rfl ?_
 refine W_nil ?_
 refine N_code ?_
 refine C_seq ?_
 refine C_seq ?_
 obtain ⟨r1, hr1, H⟩ := bd_some H
 obtain ⟨r2, hr2, H⟩ := bd_some H
 refine C_join (fun E wq => E = [(0, v0), (1, v1), (10, .bool (r1 || r2))] ∧ ∃ F3 : Frz, F.le F3 ∧ St [] w F F3 [] wq) ?_ ?_
 ·
  rcases Bool.eq_false_or_eq_true r1 with hb4 | hb4
  ·
   refine C_region ?_
   refine W_move rfl rfl ?_
   refine W_call rfl Ty.named17 rfl (cellarerlaw05_Heavy_ok hS.agree h0 hr1) ?_
   rintro v5 w5 ⟨Fr1, rfl, hT5⟩
   have hS5 := hS.lent hT5
   refine W_move rfl rfl ?_
   refine W_known (t := 7) true rfl hb4 ?_
   refine W_guard_no rfl rfl rfl rfl rfl ?_
   refine W_guard_no rfl rfl rfl rfl rfl ?_
   refine W_pick_t rfl rfl rfl ?_
   refine W_nil ?_
   exact N_join _ ⟨rfl, F, (Frz.le.refl _), hS5⟩ ⟨rfl, rfl, (look_bool rfl (by first | rfl | (rw [hb4]; first | done | rfl) | simp [hb4])), trivial⟩
  ·
   refine C_region ?_
   refine W_move rfl rfl ?_
   refine W_call rfl Ty.named17 rfl (cellarerlaw05_Heavy_ok hS.agree h0 hr1) ?_
   rintro v6 w6 ⟨Fr1, rfl, hT6⟩
   have hS6 := hS.lent hT6
   refine W_move rfl rfl ?_
   refine W_known (t := 7) false rfl hb4 ?_
   refine W_guard_yes rfl ?_
   refine W_move rfl rfl ?_
   refine W_guard_yes rfl ?_
   have hy7 := hr2
   rw [only_t (by first | rfl | (rw [hb4]; first | done | rfl) | simp [hb4])] at hy7
   refine W_call rfl Ty.named17 rfl (cellarerlaw05_Heavy_ok hS6.agree h1 hy7) ?_
   rintro v8 w8 ⟨Fr2, rfl, hT8⟩
   have hS8 := hS6.lent hT8
   refine W_pick_f rfl rfl rfl ?_
   refine W_nil ?_
   exact N_join _ ⟨rfl, F, (Frz.le.refl _), hS8⟩ ⟨rfl, rfl, (look_bool rfl (by first | rfl | (rw [hb4]; first | done | rfl) | simp [hb4])), trivial⟩
 rintro E w3 ⟨rfl, F3, le3, hS3⟩
 refine N_code ?_
 refine C_cond rfl (fun hc9 => ?_) (fun hc9 => ?_)
 ·
  rw [if_t hc9] at H
  refine C_seq ?_
  refine C_region ?_
  refine W_assign rfl rfl ?_
  refine W_nil ?_
  refine N_code ?_
  obtain rfl := Option.some.inj H
  refine C_ret rfl rfl ?_
  exact ⟨F3, rfl, hS3⟩
 ·
  rw [if_f hc9] at H
  refine C_skip ?_
  refine N_code ?_
  refine C_seq ?_
  obtain ⟨r10, hr10, H⟩ := bd_some H
  obtain ⟨r11, hr11, H⟩ := bd_some H
  obtain ⟨r12, hr12, H⟩ := bd_some H
  obtain ⟨r13, hr13, H⟩ := bd_some H
  obtain ⟨r14, hr14, H⟩ := bd_some H
  obtain ⟨r15, hr15, H⟩ := bd_some H
  refine C_join (fun E wq => E = [(4, .bool ((((r10 == r11) && (r12 == r13)) && r14) && r15))] ∧ ∃ F16 : Frz, F3.le F16 ∧ St [] w F F16 [] wq) ?_ ?_
  ·
   rcases Bool.eq_false_or_eq_true (r10 == r11) with hb17 | hb17
   ·
    rcases Bool.eq_false_or_eq_true (r12 == r13) with hb18 | hb18
    ·
     rcases Bool.eq_false_or_eq_true r14 with hb19 | hb19
     ·
      refine C_region ?_
      refine W_move rfl rfl ?_
      refine W_move rfl rfl ?_
      refine W_call rfl Ty.named27 rfl (tree_Same_ok hS3.agree (h0.mono le3) (h1.mono le3) hr10) ?_
      rintro v20 w20 ⟨Fr10, rfl, hT20⟩
      have hS20 := hS3.lent hT20
      refine W_move rfl rfl ?_
      refine W_move rfl rfl ?_
      refine W_call rfl Ty.named23 rfl (cellarerkeep_Files_ok hS20.agree (h0.mono le3) (h1.mono le3) hr11) ?_
      rintro v21 w21 ⟨Fr11, rfl, hT21⟩
      have hS21 := hS20.lent hT21
      refine W_eqlb rfl Go.Proofs.Try.underlying4 rfl rfl ?_
      refine W_move rfl rfl ?_
      refine W_known (t := 18) true rfl hb17 ?_
      refine W_guard_yes rfl ?_
      refine W_move rfl rfl ?_
      refine W_guard_yes rfl ?_
      refine W_move rfl rfl ?_
      refine W_guard_yes rfl ?_
      have hy22 := hr12
      rw [only_t hb17] at hy22
      refine W_call rfl Ty.named27 rfl (tree_Same_ok hS21.agree (h1.mono le3) (h0.mono le3) hy22) ?_
      rintro v23 w23 ⟨Fr12, rfl, hT23⟩
      have hS23 := hS21.lent hT23
      refine W_guard_yes rfl ?_
      refine W_move rfl rfl ?_
      refine W_guard_yes rfl ?_
      refine W_move rfl rfl ?_
      refine W_guard_yes rfl ?_
      have hy24 := hr13
      rw [only_t hb17] at hy24
      refine W_call rfl Ty.named27 rfl (tree_Same_ok hS23.agree (h0.mono le3) (h1.mono le3) hy24) ?_
      rintro v25 w25 ⟨Fr13, rfl, hT25⟩
      have hS25 := hS23.lent hT25
      refine W_guard_yes rfl ?_
      refine W_eqlb rfl Go.Proofs.Try.underlying4 rfl rfl ?_
      refine W_pick_t rfl rfl rfl ?_
      refine W_move rfl rfl ?_
      refine W_known (t := 27) true rfl hb18 ?_
      refine W_guard_yes rfl ?_
      refine W_move rfl rfl ?_
      refine W_guard_yes rfl ?_
      refine W_move rfl rfl ?_
      refine W_guard_yes rfl ?_
      have hy26 := hr14
      rw [only_t (by first | rfl | (rw [hb17, hb18]; first | done | rfl) | simp [hb17, hb18, hb19])] at hy26
      refine W_call rfl Ty.named27 rfl (tree_Same_ok hS25.agree (h0.mono le3) (h0.mono le3) hy26) ?_
      rintro v27 w27 ⟨Fr14, rfl, hT27⟩
      have hS27 := hS25.lent hT27
      refine W_pick_t rfl rfl rfl ?_
      refine W_move rfl rfl ?_
      refine W_known (t := 32) true rfl hb19 ?_
      refine W_guard_yes rfl ?_
      have hy28 := hr15
      rw [only_t (by first | rfl | (rw [hb17, hb18, hb19]; first | done | rfl) | simp [hb17, hb18, hb19])] at hy28
      refine W_call rfl Ty.named16 rfl (cellarerlaw05_wakes_ok hS27.agree hy28) ?_
      rintro v29 w29 ⟨Fr15, rfl, hT29⟩
      have hS29 := hS27.lent hT29
      refine W_pick_t rfl rfl rfl ?_
      refine W_assign rfl rfl ?_
      refine W_nil ?_
      exact N_join _ ⟨rfl, F3, (Frz.le.refl _), hS29⟩ ⟨(look_bool rfl (by first | rfl | (rw [hb17, hb18, hb19]; first | done | rfl) | simp [hb17, hb18, hb19])), trivial⟩
     ·
      refine C_region ?_
      refine W_move rfl rfl ?_
      refine W_move rfl rfl ?_
      refine W_call rfl Ty.named27 rfl (tree_Same_ok hS3.agree (h0.mono le3) (h1.mono le3) hr10) ?_
      rintro v30 w30 ⟨Fr10, rfl, hT30⟩
      have hS30 := hS3.lent hT30
      refine W_move rfl rfl ?_
      refine W_move rfl rfl ?_
      refine W_call rfl Ty.named23 rfl (cellarerkeep_Files_ok hS30.agree (h0.mono le3) (h1.mono le3) hr11) ?_
      rintro v31 w31 ⟨Fr11, rfl, hT31⟩
      have hS31 := hS30.lent hT31
      refine W_eqlb rfl Go.Proofs.Try.underlying4 rfl rfl ?_
      refine W_move rfl rfl ?_
      refine W_known (t := 18) true rfl hb17 ?_
      refine W_guard_yes rfl ?_
      refine W_move rfl rfl ?_
      refine W_guard_yes rfl ?_
      refine W_move rfl rfl ?_
      refine W_guard_yes rfl ?_
      have hy32 := hr12
      rw [only_t hb17] at hy32
      refine W_call rfl Ty.named27 rfl (tree_Same_ok hS31.agree (h1.mono le3) (h0.mono le3) hy32) ?_
      rintro v33 w33 ⟨Fr12, rfl, hT33⟩
      have hS33 := hS31.lent hT33
      refine W_guard_yes rfl ?_
      refine W_move rfl rfl ?_
      refine W_guard_yes rfl ?_
      refine W_move rfl rfl ?_
      refine W_guard_yes rfl ?_
      have hy34 := hr13
      rw [only_t hb17] at hy34
      refine W_call rfl Ty.named27 rfl (tree_Same_ok hS33.agree (h0.mono le3) (h1.mono le3) hy34) ?_
      rintro v35 w35 ⟨Fr13, rfl, hT35⟩
      have hS35 := hS33.lent hT35
      refine W_guard_yes rfl ?_
      refine W_eqlb rfl Go.Proofs.Try.underlying4 rfl rfl ?_
      refine W_pick_t rfl rfl rfl ?_
      refine W_move rfl rfl ?_
      refine W_known (t := 27) true rfl hb18 ?_
      refine W_guard_yes rfl ?_
      refine W_move rfl rfl ?_
      refine W_guard_yes rfl ?_
      refine W_move rfl rfl ?_
      refine W_guard_yes rfl ?_
      have hy36 := hr14
      rw [only_t (by first | rfl | (rw [hb17, hb18]; first | done | rfl) | simp [hb17, hb18, hb19])] at hy36
      refine W_call rfl Ty.named27 rfl (tree_Same_ok hS35.agree (h0.mono le3) (h0.mono le3) hy36) ?_
      rintro v37 w37 ⟨Fr14, rfl, hT37⟩
      have hS37 := hS35.lent hT37
      refine W_pick_t rfl rfl rfl ?_
      refine W_move rfl rfl ?_
      refine W_known (t := 32) false rfl hb19 ?_
      refine W_guard_no rfl rfl rfl rfl rfl ?_
      refine W_pick_f rfl rfl rfl ?_
      refine W_assign rfl rfl ?_
      refine W_nil ?_
      exact N_join _ ⟨rfl, F3, (Frz.le.refl _), hS37⟩ ⟨(look_bool rfl (by first | rfl | (rw [hb17, hb18, hb19]; first | done | rfl) | simp [hb17, hb18, hb19])), trivial⟩
    ·
     refine C_region ?_
     refine W_move rfl rfl ?_
     refine W_move rfl rfl ?_
     refine W_call rfl Ty.named27 rfl (tree_Same_ok hS3.agree (h0.mono le3) (h1.mono le3) hr10) ?_
     rintro v38 w38 ⟨Fr10, rfl, hT38⟩
     have hS38 := hS3.lent hT38
     refine W_move rfl rfl ?_
     refine W_move rfl rfl ?_
     refine W_call rfl Ty.named23 rfl (cellarerkeep_Files_ok hS38.agree (h0.mono le3) (h1.mono le3) hr11) ?_
     rintro v39 w39 ⟨Fr11, rfl, hT39⟩
     have hS39 := hS38.lent hT39
     refine W_eqlb rfl Go.Proofs.Try.underlying4 rfl rfl ?_
     refine W_move rfl rfl ?_
     refine W_known (t := 18) true rfl hb17 ?_
     refine W_guard_yes rfl ?_
     refine W_move rfl rfl ?_
     refine W_guard_yes rfl ?_
     refine W_move rfl rfl ?_
     refine W_guard_yes rfl ?_
     have hy40 := hr12
     rw [only_t hb17] at hy40
     refine W_call rfl Ty.named27 rfl (tree_Same_ok hS39.agree (h1.mono le3) (h0.mono le3) hy40) ?_
     rintro v41 w41 ⟨Fr12, rfl, hT41⟩
     have hS41 := hS39.lent hT41
     refine W_guard_yes rfl ?_
     refine W_move rfl rfl ?_
     refine W_guard_yes rfl ?_
     refine W_move rfl rfl ?_
     refine W_guard_yes rfl ?_
     have hy42 := hr13
     rw [only_t hb17] at hy42
     refine W_call rfl Ty.named27 rfl (tree_Same_ok hS41.agree (h0.mono le3) (h1.mono le3) hy42) ?_
     rintro v43 w43 ⟨Fr13, rfl, hT43⟩
     have hS43 := hS41.lent hT43
     refine W_guard_yes rfl ?_
     refine W_eqlb rfl Go.Proofs.Try.underlying4 rfl rfl ?_
     refine W_pick_t rfl rfl rfl ?_
     refine W_move rfl rfl ?_
     refine W_known (t := 27) false rfl hb18 ?_
     refine W_guard_no rfl rfl rfl rfl rfl ?_
     refine W_guard_no rfl rfl rfl rfl rfl ?_
     refine W_guard_no rfl rfl rfl rfl rfl ?_
     refine W_pick_f rfl rfl rfl ?_
     refine W_move rfl rfl ?_
     refine W_guard_no rfl rfl rfl rfl rfl ?_
     refine W_pick_f rfl rfl rfl ?_
     refine W_assign rfl rfl ?_
     refine W_nil ?_
     exact N_join _ ⟨rfl, F3, (Frz.le.refl _), hS43⟩ ⟨(look_bool rfl (by first | rfl | (rw [hb17, hb18]; first | done | rfl) | simp [hb17, hb18])), trivial⟩
   ·
    refine C_region ?_
    refine W_move rfl rfl ?_
    refine W_move rfl rfl ?_
    refine W_call rfl Ty.named27 rfl (tree_Same_ok hS3.agree (h0.mono le3) (h1.mono le3) hr10) ?_
    rintro v44 w44 ⟨Fr10, rfl, hT44⟩
    have hS44 := hS3.lent hT44
    refine W_move rfl rfl ?_
    refine W_move rfl rfl ?_
    refine W_call rfl Ty.named23 rfl (cellarerkeep_Files_ok hS44.agree (h0.mono le3) (h1.mono le3) hr11) ?_
    rintro v45 w45 ⟨Fr11, rfl, hT45⟩
    have hS45 := hS44.lent hT45
    refine W_eqlb rfl Go.Proofs.Try.underlying4 rfl rfl ?_
    refine W_move rfl rfl ?_
    refine W_known (t := 18) false rfl hb17 ?_
    refine W_guard_no rfl rfl rfl rfl rfl ?_
    refine W_guard_no rfl rfl rfl rfl rfl ?_
    refine W_guard_no rfl rfl rfl rfl rfl ?_
    refine W_guard_no rfl rfl rfl rfl rfl ?_
    refine W_guard_no rfl rfl rfl rfl rfl ?_
    refine W_guard_no rfl rfl rfl rfl rfl ?_
    refine W_guard_no rfl rfl rfl rfl rfl ?_
    refine W_pick_f rfl rfl rfl ?_
    refine W_move rfl rfl ?_
    refine W_guard_no rfl rfl rfl rfl rfl ?_
    refine W_guard_no rfl rfl rfl rfl rfl ?_
    refine W_guard_no rfl rfl rfl rfl rfl ?_
    refine W_pick_f rfl rfl rfl ?_
    refine W_move rfl rfl ?_
    refine W_guard_no rfl rfl rfl rfl rfl ?_
    refine W_pick_f rfl rfl rfl ?_
    refine W_assign rfl rfl ?_
    refine W_nil ?_
    exact N_join _ ⟨rfl, F3, (Frz.le.refl _), hS45⟩ ⟨(look_bool rfl (by first | rfl | (rw [hb17]; first | done | rfl) | simp [hb17])), trivial⟩
  rintro E w16 ⟨rfl, F16, le16, hS16⟩
  refine N_code ?_
  obtain rfl := Option.some.inj H
  refine C_ret rfl rfl ?_
  exact ⟨F16, rfl, hS16⟩

end
end Go.Wk.Lf
