import Derived.Test.YtoanecpanckkeaaLfB
namespace Go.Wk.Lf
open Go.Proofs Go.RowKit
set_option linter.unusedVariables false
set_option linter.unusedSimpArgs false
noncomputable section

def cellarerlaw05_TreeBounds.k2 (x0 : Int) (x1 : Int) (l2 : List File) (i6 : Int) : Option Bool :=
  bd (tree_Sort l2) fun r7 =>
  bd (tree_Check l2) fun r10 =>
  if ((decide (r10 ≠ i6) || decide (r7.2 ≠ i6)) || (decide (i6 ≠ 0) && decide (0 < (r7.1.length : Int)))) then
    some false
  else
    bd (only (!decide (i6 ≠ 0)) (tree_Same r7.1 l2) false) fun r20 =>
    bd (only ((!decide (i6 ≠ 0)) && r20) (tree_Size r7.1) 0) fun r21 =>
    bd (only (decide (i6 ≠ 0) || (r20 && decide (r21 = wr (wr ((wu x0).tmod 8) * wr (199 + wr ((wu x1).tmod 3)))))) (cellarerlaw05_wakes) false) fun r22 =>
    some ((decide (i6 ≠ 0) || (r20 && decide (r21 = wr (wr ((wu x0).tmod 8) * wr (199 + wr ((wu x1).tmod 3)))))) && r22)


def cellarerlaw05_TreeBounds.k1 (x0 : Int) (x1 : Int) (x2 : Int) (l2 : List File) : Option Bool :=
  if (decide (6 < wr ((wu x0).tmod 8)) || (decide (0 < wr ((wu x0).tmod 8)) && decide (200 < wr (199 + wr ((wu x1).tmod 3))))) then
    cellarerlaw05_TreeBounds.k2 x0 x1 l2 2
  else
    if (decide (0 < wr ((wu x0).tmod 8)) && decide (20 < wr (19 + wr ((wu x2).tmod 3)))) then
      cellarerlaw05_TreeBounds.k2 x0 x1 l2 1
    else
      cellarerlaw05_TreeBounds.k2 x0 x1 l2 0


def cellarerlaw05_TreeBounds.k4 (i52 : Int) (rec53 : ((List File) × Int) → Option Bool) (l56 : List File) : Option Bool :=
  rec53 (l56, wr (i52 + 1))


def cellarerlaw05_TreeBounds.k5 (x1 : Int) (l49 : List File) (i52 : Int) (rec53 : ((List File) × Int) → Option Bool) (l62 : List UInt8) : Option Bool :=
  bd (ix l62 0) fun x63 =>
  bd (rep (wr (199 + wr ((wu x1).tmod 3))) 0) fun l68 =>
  bd (app (α := File) l49 [(File.mk (l62.set ((0 : Int).toNat) (toB8 (wr (65 + i52)))) l68)]) fun l71 =>
  cellarerlaw05_TreeBounds.k4 i52 rec53 l71


def cellarerlaw05_TreeBounds.l6 (x1 : Int) (x2 : Int) (l49 : List File) (i52 : Int) (rec53 : ((List File) × Int) → Option Bool) (rec106 : (Int × (List UInt8)) → Option Bool) : (Int × (List UInt8)) → Option Bool
  | (i104, l105) =>
    if decide (i104 < wr (19 + wr ((wu x2).tmod 3))) then
      bd (ix l105 i104) fun x108 =>
      rec106 (wr (i104 + 1), (l105.set i104.toNat (33 : UInt8)))
    else
      cellarerlaw05_TreeBounds.k5 x1 l49 i52 rec53 l105


def cellarerlaw05_TreeBounds.l3 (x0 : Int) (x1 : Int) (x2 : Int) (rec53 : ((List File) × Int) → Option Bool) : ((List File) × Int) → Option Bool
  | (l49, i52) =>
    if decide (i52 < wr ((wu x0).tmod 8)) then
      bd (rep (wr (19 + wr ((wu x2).tmod 3))) 0) fun l59 =>
      loop (cellarerlaw05_TreeBounds.l6 x1 x2 l49 i52 rec53) (0, l59)
    else
      cellarerlaw05_TreeBounds.k1 x0 x1 x2 l49

def cellarerlaw05_TreeBounds (x0 : Int) (x1 : Int) (x2 : Int) : Option Bool :=
  loop (cellarerlaw05_TreeBounds.l3 x0 x1 x2) ([], 0)

theorem cellarerlaw05_TreeBounds_ok {F : Frz} {w : World} {x0 : Int} {x1 : Int} {x2 : Int} {r : Bool} (hA : Agree F w.heap) (H : cellarerlaw05_TreeBounds x0 x1 x2 = some r) : Ret Try.prog 7 #[.int .i64 x0, .int .i64 x1, .int .i64 x2] w fun v w' => ∃ (F' : Frz), v = .bool r ∧ St [] w F F' [] w' := by
 refine Ret_of (args := [.int .i64 x0, .int .i64 x1, .int .i64 x2]) Go.Proofs.Try.func7 rfl rfl ?_
 change C _ _ _ _ [(0, .int .i64 x0), (1, .int .i64 x1), (2, .int .i64 x2)] _
 have hS := St.entry hA
 dsimp only [cellarerlaw05_TreeBounds] at H
 refine C_seq ?_
 refine C_region ?_
 refine W_assign rfl rfl ?_
 refine W_nil ?_
 refine N_code ?_
 refine C_seq ?_
 refine C_region ?_
 refine W_move rfl rfl ?_
 refine W_conv rfl rfl Ty.some3 Go.Proofs.Try.underlying24 (rfl) ?_
 refine W_rem rfl rfl rfl (by decide) rfl ?_
 refine W_conv rfl rfl Ty.some24 Go.Proofs.Try.underlying3 (rfl) ?_
 refine W_move rfl rfl ?_
 refine W_conv rfl rfl Ty.some3 Go.Proofs.Try.underlying24 (rfl) ?_
 refine W_rem rfl rfl rfl (by decide) rfl ?_
 refine W_conv rfl rfl Ty.some24 Go.Proofs.Try.underlying3 (rfl) ?_
 refine W_add rfl rfl rfl rfl ?_
 refine W_move rfl rfl ?_
 refine W_conv rfl rfl Ty.some3 Go.Proofs.Try.underlying24 (rfl) ?_
 refine W_rem rfl rfl rfl (by decide) rfl ?_
 refine W_conv rfl rfl Ty.some24 Go.Proofs.Try.underlying3 (rfl) ?_
 refine W_add rfl rfl rfl rfl ?_
 refine W_assign rfl rfl ?_
 refine W_assign rfl rfl ?_
 refine W_assign rfl rfl ?_
 refine W_nil ?_
 refine N_code ?_
 refine C_seq ?_
 refine C_region ?_
 refine W_assign rfl rfl ?_
 refine W_nil ?_
 refine N_code ?_
 refine C_seq_join (fun E wq => ∃ l2 : List File, cellarerlaw05_TreeBounds.k1 x0 x1 x2 l2 = some r ∧ ∃ (F1 : Frz) (u3 : Value), E = [(0, .int .i64 (wr ((wu x0).tmod 8))), (1, .int .i64 (wr (199 + wr ((wu x1).tmod 3)))), (2, .int .i64 (wr (19 + wr ((wu x2).tmod 3)))), (7, u3)] ∧ F.le F1 ∧ St [] w F F1 [.row File.t 34 u3 l2] wq) ?_ ?_
 ·
  refine C_seq ?_
  refine C_region ?_
  refine W_assign rfl rfl ?_
  refine W_nil ?_
  refine N_code ?_
  refine C_block ?_
  refine C_loopM (fun (s : (List File) × Int) E wq => ∃ (F48 : Frz) (u50 : Value), E = [(0, .int .i64 (wr ((wu x0).tmod 8))), (1, .int .i64 (wr (199 + wr ((wu x1).tmod 3)))), (2, .int .i64 (wr (19 + wr ((wu x2).tmod 3)))), (7, u50), (8, .int .i64 s.2)] ∧ F.le F48 ∧ St [] w F F48 [.row File.t 34 u50 s.1] wq) H ?_ ?_
  ·
   have hS114 := hS.nilRow File.t 34
   exact ⟨_, ⟨F, (.slice none 0 0), rfl, (Frz.le.refl _), hS114⟩, ⟨rfl, rfl, rfl, rfl, rfl, trivial⟩⟩
  ·
   rintro rec53 ⟨l49, i52⟩ E w48 hI H
   try dsimp only at hI
   obtain ⟨F48, u50, rfl, le48, hS48⟩ := hI
   dsimp only [cellarerlaw05_TreeBounds.l3] at H
   refine C_seq ?_
   refine C_seq ?_
   refine C_region ?_
   refine W_move rfl rfl ?_
   refine W_move rfl rfl ?_
   refine W_lss rfl rfl rfl ?_
   refine W_nil ?_
   refine N_code ?_
   refine C_cond rfl (fun hc54 => ?_) (fun hc54 => ?_)
   ·
    rw [if_t hc54] at H
    refine C_skip ?_
    refine N_code ?_
    refine C_seq_join (fun E wq => ∃ l56 : List File, cellarerlaw05_TreeBounds.k4 i52 rec53 l56 = some r ∧ ∃ (F55 : Frz) (u57 : Value), E = [(0, .int .i64 (wr ((wu x0).tmod 8))), (1, .int .i64 (wr (199 + wr ((wu x1).tmod 3)))), (2, .int .i64 (wr (19 + wr ((wu x2).tmod 3)))), (7, u57), (8, .int .i64 i52)] ∧ F48.le F55 ∧ St [] w F F55 [.row File.t 34 u57 l56] wq) ?_ ?_
    ·
     refine C_block ?_
     refine C_seq ?_
     obtain ⟨l59, hl59, H⟩ := bd_some H
     refine C_region ?_
     refine W_move rfl rfl ?_
     refine W_mk (t := tB) (x0 := 0) rfl Go.Proofs.Try.underlying25 Ty.row5 rfl rfl rfl rfl hS48 rfl hl59 ?_
     intro v60 w60 hS60
     refine W_assign rfl rfl ?_
     refine W_nil ?_
     refine N_code ?_
     refine C_seq_join (fun E wq => ∃ l62 : List UInt8, cellarerlaw05_TreeBounds.k5 x1 l49 i52 rec53 l62 = some r ∧ ∃ (F61 : Frz), E = [(0, .int .i64 (wr ((wu x0).tmod 8))), (1, .int .i64 (wr (199 + wr ((wu x1).tmod 3)))), (2, .int .i64 (wr (19 + wr ((wu x2).tmod 3)))), (7, u50), (8, .int .i64 i52), (9, v60)] ∧ F48.le F61 ∧ St [] w F F61 [.row tB 5 v60 l62, .row File.t 34 u50 l49] wq) ?_ ?_
     ·
      refine C_seq ?_
      refine C_region ?_
      refine W_assign rfl rfl ?_
      refine W_nil ?_
      refine N_code ?_
      refine C_block ?_
      refine C_loopM (fun (s : Int × (List UInt8)) E wq => ∃ (F103 : Frz), E = [(0, .int .i64 (wr ((wu x0).tmod 8))), (1, .int .i64 (wr (199 + wr ((wu x1).tmod 3)))), (2, .int .i64 (wr (19 + wr ((wu x2).tmod 3)))), (7, u50), (8, .int .i64 i52), (9, v60), (10, .int .i64 s.1)] ∧ F48.le F103 ∧ St [] w F F103 [.row tB 5 v60 s.2, .row File.t 34 u50 l49] wq) H ?_ ?_
      ·
       exact ⟨_, ⟨F48, rfl, (Frz.le.refl _), hS60⟩, ⟨rfl, rfl, rfl, rfl, rfl, rfl, rfl, trivial⟩⟩
      ·
       rintro rec106 ⟨i104, l105⟩ E w103 hI H
       try dsimp only at hI
       obtain ⟨F103, rfl, le103, hS103⟩ := hI
       dsimp only [cellarerlaw05_TreeBounds.l6] at H
       refine C_seq ?_
       refine C_seq ?_
       refine C_region ?_
       refine W_move rfl rfl ?_
       refine W_move rfl rfl ?_
       refine W_lss rfl rfl rfl ?_
       refine W_nil ?_
       refine N_code ?_
       refine C_cond rfl (fun hc107 => ?_) (fun hc107 => ?_)
       ·
        rw [if_t hc107] at H
        refine C_skip ?_
        refine N_code ?_
        refine C_seq ?_
        refine C_block ?_
        obtain ⟨x108, hx108, H⟩ := bd_some H
        refine C_region ?_
        refine W_move rfl rfl ?_
        refine W_move rfl rfl ?_
        obtain ⟨hp110, hy110⟩ := ix_some hx108
        obtain ⟨cs110, hr110, he110⟩ := hS103.rowAt (k := 0) rfl hy110
        obtain rfl := hr110
        replace he110 : El _ _ 1 _ _ := he110
        refine W_ix rfl Go.Proofs.Try.underlying25 Ty.cells5 Ty.info5 rfl rfl he110 hp110 rfl ?_
        refine W_put (c := [.int .u8 ((33 : UInt8).toNat : Int)]) 0 (i104.toNat) 0 x108 (33 : UInt8) rfl rfl hS103 rfl (ix_some hx108).2 (by first | rfl | (show _ = _ * 1 + _; omega)) rfl Ty.size5 (by intro y hy; simp at hy; subst hy; rfl) (by first | decide | exact Nat.le_of_ble_eq_true rfl) (by rintro cs rfl; rfl) ?_
        intro w111 hS111
        refine W_nil ?_
        refine N_block ?_
        refine N_code ?_
        refine C_region ?_
        refine W_move rfl rfl ?_
        refine W_add rfl rfl rfl rfl ?_
        refine W_assign rfl rfl ?_
        refine W_nil ?_
        exact N_againM (wr (i104 + 1), (l105.set i104.toNat (33 : UInt8))) _ H ⟨F103, rfl, le103, hS111⟩ ⟨rfl, rfl, rfl, rfl, rfl, rfl, rfl, trivial⟩
       ·
        rw [if_f hc107] at H
        refine C_exit _ rfl ?_
        exact N_join _ ⟨l105, H, ⟨F103, rfl, le103, hS103⟩⟩ ⟨rfl, rfl, rfl, rfl, rfl, rfl, trivial⟩
     ·
      rintro E w61 ⟨l62, H, F61, rfl, le61, hS61⟩
      dsimp only [cellarerlaw05_TreeBounds.k5] at H
      refine C_seq ?_
      obtain ⟨x63, hx63, H⟩ := bd_some H
      refine C_region ?_
      refine W_move rfl rfl ?_
      refine W_move rfl rfl ?_
      refine W_add rfl rfl rfl rfl ?_
      refine W_conv rfl rfl Ty.some3 Go.Proofs.Try.underlying5 (i8_of _) ?_
      obtain ⟨hp65, hy65⟩ := ix_some hx63
      obtain ⟨cs65, hr65, he65⟩ := hS61.rowAt (k := 0) rfl hy65
      obtain rfl := hr65
      replace he65 : El _ _ 1 _ _ := he65
      refine W_ix rfl Go.Proofs.Try.underlying25 Ty.cells5 Ty.info5 rfl rfl he65 hp65 rfl ?_
      refine W_put (c := [.int .u8 ((toB8 (wr (65 + i52))).toNat : Int)]) 0 ((0 : Int).toNat) 0 x63 (toB8 (wr (65 + i52))) rfl rfl hS61 rfl (ix_some hx63).2 (by first | rfl | (show _ = _ * 1 + _; omega)) rfl Ty.size5 (by intro y hy; simp at hy; subst hy; rfl) (by first | decide | exact Nat.le_of_ble_eq_true rfl) (by rintro cs rfl; rfl) ?_
      intro w66 hS66
      refine W_nil ?_
      refine N_code ?_
      obtain ⟨l68, hl68, H⟩ := bd_some H
      obtain ⟨l71, hl71, H⟩ := bd_some H
      apply C_drawJ (fun D vs wz => ∀ (b4 b5 b6 : Bool), D 4 = b4 → D 5 = b5 → D 6 = b6 → match b4, b5, b6 with | false, false, false => ∃ FJ : Frz, F61.le FJ ∧ St [] w F FJ [.row tB 5 v60 (l62.set ((0 : Int).toNat) (toB8 (wr (65 + i52)))), .row File.t 34 u50 l49] wz | true, false, false => ∃ FJ : Frz, ∃ v69 : Value, vs 4 = v69 ∧ F61.le FJ ∧ St [] w F FJ [.row tB 5 v69 l68, .row tB 5 v60 (l62.set ((0 : Int).toNat) (toB8 (wr (65 + i52)))), .row File.t 34 u50 l49] wz | true, true, false => ∃ FJ : Frz, ∃ v69 : Value, vs 4 = v69 ∧ vs 5 = .agg (File.cells (File.mk (l62.set ((0 : Int).toNat) (toB8 (wr (65 + i52)))) l68) v69).toArray ∧ F61.le FJ ∧ St [] w F FJ [.row tB 5 v69 l68, .row tB 5 v60 (l62.set ((0 : Int).toNat) (toB8 (wr (65 + i52)))), .row File.t 34 u50 l49] wz | true, true, true => ∃ FJ : Frz, ∃ v69 : Value, ∃ u70 : Value, vs 4 = v69 ∧ vs 5 = .agg (File.cells (File.mk (l62.set ((0 : Int).toNat) (toB8 (wr (65 + i52)))) l68) v69).toArray ∧ vs 6 = u70 ∧ F61.le FJ ∧ St [] w F FJ [.row File.t 34 u70 [(File.mk (l62.set ((0 : Int).toNat) (toB8 (wr (65 + i52)))) l68)], .row tB 5 v60 (l62.set ((0 : Int).toNat) (toB8 (wr (65 + i52)))), .row File.t 34 u50 l49] wz | _, _, _ => False) 7 [[], [], [1], [], [3], [2, 4], [5]] [some (u50), some (v60), some (strV (l62.set ((0 : Int).toNat) (toB8 (wr (65 + i52))))), some (.int .i64 (wr (199 + wr ((wu x1).tmod 3)))), none, none, none] Ty.mixed rfl (by kernel_rfl) (by kernel_rfl) rfl
      ·
       intro vq80 b4 b5 b6 h4 h5 h6
       obtain rfl : b4 = false := h4.symm
       obtain rfl : b5 = false := h5.symm
       obtain rfl : b6 = false := h6.symm
       exact ⟨F61, (Frz.le.refl _), (hS66.below (below_drew _))⟩
      ·
       refine ⟨?_, ?_, ?_, ?_, ?_, ?_, ?_, trivial⟩
       ·
        intro w81 vq81 D81 hD81 hd81 hJ81
        refine W_move rfl rfl ?_
        refine W_nil ?_
        exact N_stepJ rfl (fun u hu => Option.some.inj hu) hJ81
       ·
        intro w82 vq82 D82 hD82 hd82 hJ82
        refine W_move rfl rfl ?_
        refine W_nil ?_
        exact N_stepJ rfl (fun u hu => Option.some.inj hu) hJ82
       ·
        intro w83 vq83 D83 hD83 hd83 hJ83
        rcases Bool.eq_false_or_eq_true (D83 4) with hb84 | hb84
        ·
         rcases Bool.eq_false_or_eq_true (D83 5) with hb85 | hb85
         ·
          rcases Bool.eq_false_or_eq_true (D83 6) with hb86 | hb86
          ·
           obtain ⟨FJ83, v69, u70, he83_4, he83_5, he83_6, leJ83, hSJ83⟩ := (hJ83 true true true hb84 hb85 hb86)
           refine W_bstr rfl Go.Proofs.Try.underlying25 Go.Proofs.Try.underlying5 Go.Proofs.Try.underlying9 rfl (hSJ83.rowSrc (j := 1) rfl) ?_
           refine W_nil ?_
           exact N_stepJ rfl (fun u hu => Option.some.inj hu) (fun b4 b5 b6 h4 h5 h6 => by obtain rfl : b4 = true := h4.symm.trans hb84; obtain rfl : b5 = true := h5.symm.trans hb85; obtain rfl : b6 = true := h6.symm.trans hb86; exact ⟨FJ83, v69, u70, he83_4, he83_5, he83_6, leJ83, hSJ83⟩)
          ·
           obtain ⟨FJ83, v69, he83_4, he83_5, leJ83, hSJ83⟩ := (hJ83 true true false hb84 hb85 hb86)
           refine W_bstr rfl Go.Proofs.Try.underlying25 Go.Proofs.Try.underlying5 Go.Proofs.Try.underlying9 rfl (hSJ83.rowSrc (j := 1) rfl) ?_
           refine W_nil ?_
           exact N_stepJ rfl (fun u hu => Option.some.inj hu) (fun b4 b5 b6 h4 h5 h6 => by obtain rfl : b4 = true := h4.symm.trans hb84; obtain rfl : b5 = true := h5.symm.trans hb85; obtain rfl : b6 = false := h6.symm.trans hb86; exact ⟨FJ83, v69, he83_4, he83_5, leJ83, hSJ83⟩)
         ·
          rcases Bool.eq_false_or_eq_true (D83 6) with hb87 | hb87
          ·
           exact False.elim (hJ83 true false true hb84 hb85 hb87)
          ·
           obtain ⟨FJ83, v69, he83_4, leJ83, hSJ83⟩ := (hJ83 true false false hb84 hb85 hb87)
           refine W_bstr rfl Go.Proofs.Try.underlying25 Go.Proofs.Try.underlying5 Go.Proofs.Try.underlying9 rfl (hSJ83.rowSrc (j := 1) rfl) ?_
           refine W_nil ?_
           exact N_stepJ rfl (fun u hu => Option.some.inj hu) (fun b4 b5 b6 h4 h5 h6 => by obtain rfl : b4 = true := h4.symm.trans hb84; obtain rfl : b5 = false := h5.symm.trans hb85; obtain rfl : b6 = false := h6.symm.trans hb87; exact ⟨FJ83, v69, he83_4, leJ83, hSJ83⟩)
        ·
         rcases Bool.eq_false_or_eq_true (D83 5) with hb88 | hb88
         ·
          rcases Bool.eq_false_or_eq_true (D83 6) with hb89 | hb89
          ·
           exact False.elim (hJ83 false true true hb84 hb88 hb89)
          ·
           exact False.elim (hJ83 false true false hb84 hb88 hb89)
         ·
          rcases Bool.eq_false_or_eq_true (D83 6) with hb90 | hb90
          ·
           exact False.elim (hJ83 false false true hb84 hb88 hb90)
          ·
           obtain ⟨FJ83, leJ83, hSJ83⟩ := (hJ83 false false false hb84 hb88 hb90)
           refine W_bstr rfl Go.Proofs.Try.underlying25 Go.Proofs.Try.underlying5 Go.Proofs.Try.underlying9 rfl (hSJ83.rowSrc (j := 0) rfl) ?_
           refine W_nil ?_
           exact N_stepJ rfl (fun u hu => Option.some.inj hu) (fun b4 b5 b6 h4 h5 h6 => by obtain rfl : b4 = false := h4.symm.trans hb84; obtain rfl : b5 = false := h5.symm.trans hb88; obtain rfl : b6 = false := h6.symm.trans hb90; exact ⟨FJ83, leJ83, hSJ83⟩)
       ·
        intro w91 vq91 D91 hD91 hd91 hJ91
        refine W_move rfl rfl ?_
        refine W_nil ?_
        exact N_stepJ rfl (fun u hu => Option.some.inj hu) hJ91
       ·
        intro w92 vq92 D92 hD92 hd92 hJ92
        rcases Bool.eq_false_or_eq_true (D92 5) with hb93 | hb93
        ·
         rcases Bool.eq_false_or_eq_true (D92 6) with hb94 | hb94
         ·
          exact False.elim (hJ92 false true true hD92 hb93 hb94)
         ·
          exact False.elim (hJ92 false true false hD92 hb93 hb94)
        ·
         rcases Bool.eq_false_or_eq_true (D92 6) with hb95 | hb95
         ·
          exact False.elim (hJ92 false false true hD92 hb93 hb95)
         ·
          obtain ⟨FJ92, leJ92, hSJ92⟩ := (hJ92 false false false hD92 hb93 hb95)
          refine W_mk (t := tB) (x0 := 0) rfl Go.Proofs.Try.underlying25 Ty.row5 rfl rfl rfl rfl hSJ92 rfl hl68 ?_
          intro v69 w69 hS69
          refine W_nil ?_
          exact N_stepJ rfl (fun u (hu : (none : Option Value) = some u) => by cases hu) (fun b4 b5 b6 h4 h5 h6 => by obtain rfl : b4 = true := h4.symm; obtain rfl : b5 = false := h5.symm.trans hb93; obtain rfl : b6 = false := h6.symm.trans hb95; exact ⟨FJ92, v69, rfl, leJ92, hS69⟩)
       ·
        intro w96 vq96 D96 hD96 hd96 hJ96
        rcases Bool.eq_false_or_eq_true (D96 6) with hb97 | hb97
        ·
         exact False.elim (hJ96 true false true (hd96 4 (by decide)) hD96 hb97)
        ·
         obtain ⟨FJ96, v69, he96_4, leJ96, hSJ96⟩ := (hJ96 true false false (hd96 4 (by decide)) hD96 hb97)
         refine W_eqv (t := 52) rfl he96_4 ?_
         obtain ⟨ao98, m98, c98, hu98⟩ := (hSJ96.rowLn (k := 0) rfl).form
         refine W_build (v := .agg (File.cells (File.mk (l62.set ((0 : Int).toNat) (toB8 (wr (65 + i52)))) l68) v69).toArray) rfl rfl (fun _ => by rw [hu98]; kernel_rfl) ?_
         refine W_nil ?_
         exact N_stepJ rfl (fun u (hu : (none : Option Value) = some u) => by cases hu) (fun b4 b5 b6 h4 h5 h6 => by obtain rfl : b4 = true := h4.symm.trans (hd96 4 (by decide)); obtain rfl : b5 = true := h5.symm; obtain rfl : b6 = false := h6.symm.trans hb97; exact ⟨FJ96, v69, he96_4, rfl, leJ96, hSJ96⟩)
       ·
        intro w99 vq99 D99 hD99 hd99 hJ99
        rcases Bool.eq_false_or_eq_true (D99 4) with hb100 | hb100
        ·
         obtain ⟨FJ99, v69, he99_4, he99_5, leJ99, hSJ99⟩ := (hJ99 true true false hb100 (hd99 5 (by decide)) hD99)
         refine W_eqv (t := 53) rfl he99_5 ?_
         obtain ⟨F101, le101, hf101, hS101⟩ := hSJ99.freeze 0 [1, 2] rfl (by decide) (by decide)
         refine W_bs (t := File.t) [(File.cells (File.mk (l62.set ((0 : Int).toNat) (toB8 (wr (65 + i52)))) l68) v69)] [(File.mk (l62.set ((0 : Int).toNat) (toB8 (wr (65 + i52)))) l68)] rfl Go.Proofs.Try.underlying27 Ty.cells34 rfl rfl Ty.zero34 rfl rfl ⟨⟨v69, rfl, hf101⟩, trivial⟩ rfl rfl hS101 ?_
         intro u70 w70 hS70
         refine W_nil ?_
         exact N_stepJ rfl (fun u (hu : (none : Option Value) = some u) => by cases hu) (fun b4 b5 b6 h4 h5 h6 => by obtain rfl : b4 = true := h4.symm.trans hb100; obtain rfl : b5 = true := h5.symm.trans (hd99 5 (by decide)); obtain rfl : b6 = true := h6.symm; exact ⟨F101, v69, u70, he99_4, he99_5, rfl, (leJ99.trans le101), hS70⟩)
        ·
         exact False.elim (hJ99 false true false hb100 (hd99 5 (by decide)) hD99)
      intro w102 vq102 D102 hA102 hJ102
      obtain ⟨FJ102, v69, u70, he102_4, he102_5, he102_6, leJ102, hSJ102⟩ := (hJ102 true true true (hA102 4 (by decide)) (hA102 5 (by decide)) (hA102 6 (by decide)))
      refine W_eqv (t := 52) rfl he102_4 ?_
      refine W_eqv (t := 53) rfl he102_5 ?_
      refine W_eqv (t := 54) rfl he102_6 ?_
      refine W_appM 2 rfl Go.Proofs.Try.underlying27 Ty.row34 rfl rfl rfl rfl rfl hSJ102 rfl (hSJ102.rowSrc (j := 0) rfl) hl71 ?_
      intro v72 w72 hS72
      refine W_assign rfl rfl ?_
      refine W_nil ?_
      refine N_block ?_
      exact N_join _ ⟨l71, H, ⟨FJ102, v72, rfl, (le61.trans leJ102), hS72.pick [2] (by decide)⟩⟩ ⟨rfl, rfl, rfl, rfl, rfl, trivial⟩
    ·
     rintro E w55 ⟨l56, H, F55, u57, rfl, le55, hS55⟩
     dsimp only [cellarerlaw05_TreeBounds.k4] at H
     refine C_region ?_
     refine W_move rfl rfl ?_
     refine W_add rfl rfl rfl rfl ?_
     refine W_assign rfl rfl ?_
     refine W_nil ?_
     exact N_againM (l56, wr (i52 + 1)) _ H ⟨F55, u57, rfl, (le48.trans le55), hS55⟩ ⟨rfl, rfl, rfl, rfl, rfl, trivial⟩
   ·
    rw [if_f hc54] at H
    refine C_exit _ rfl ?_
    exact N_join _ ⟨l49, H, ⟨F48, u50, rfl, le48, hS48⟩⟩ ⟨rfl, rfl, rfl, rfl, trivial⟩
 ·
  rintro E w1 ⟨l2, H, F1, u3, rfl, le1, hS1⟩
  dsimp only [cellarerlaw05_TreeBounds.k1] at H
  refine C_seq ?_
  refine C_region ?_
  refine W_assign rfl rfl ?_
  refine W_nil ?_
  refine N_code ?_
  refine C_seq_join (fun E wq => ∃ i6 : Int, cellarerlaw05_TreeBounds.k2 x0 x1 l2 i6 = some r ∧ ∃ (F5 : Frz), E = [(0, .int .i64 (wr ((wu x0).tmod 8))), (1, .int .i64 (wr (199 + wr ((wu x1).tmod 3)))), (7, u3), (11, .int .i64 i6)] ∧ F1.le F5 ∧ St [] w F F5 [.row File.t 34 u3 l2] wq) ?_ ?_
  ·
   refine C_block ?_
   refine C_seq ?_
   refine C_join (fun E wq => E = [(0, .int .i64 (wr ((wu x0).tmod 8))), (1, .int .i64 (wr (199 + wr ((wu x1).tmod 3)))), (2, .int .i64 (wr (19 + wr ((wu x2).tmod 3)))), (7, u3), (11, .int .i64 0), (56, .bool (decide (6 < wr ((wu x0).tmod 8)) || (decide (0 < wr ((wu x0).tmod 8)) && decide (200 < wr (199 + wr ((wu x1).tmod 3))))))] ∧ ∃ F41 : Frz, F1.le F41 ∧ St [] w F F41 [.row File.t 34 u3 l2] wq) ?_ ?_
   ·
    rcases Bool.eq_false_or_eq_true (decide (6 < wr ((wu x0).tmod 8))) with hb42 | hb42
    ·
     refine C_region ?_
     refine W_move rfl rfl ?_
     refine W_gtr rfl rfl rfl ?_
     refine W_move rfl rfl ?_
     refine W_known (t := 59) true rfl hb42 ?_
     refine W_guard_no rfl rfl rfl rfl rfl ?_
     refine W_guard_no rfl rfl rfl rfl rfl ?_
     refine W_guard_no rfl rfl rfl rfl rfl ?_
     refine W_guard_un rfl rfl rfl rfl ?_
     refine W_guard_un rfl rfl rfl rfl ?_
     refine W_guard_no rfl rfl rfl rfl rfl ?_
     refine W_pick_t rfl rfl rfl ?_
     refine W_assign rfl rfl ?_
     refine W_nil ?_
     exact N_join _ ⟨rfl, F1, (Frz.le.refl _), hS1⟩ ⟨rfl, rfl, rfl, rfl, rfl, (look_bool rfl (by first | rfl | (rw [hb42]; first | done | rfl) | simp [hb42])), trivial⟩
    ·
     rcases Bool.eq_false_or_eq_true (decide (0 < wr ((wu x0).tmod 8))) with hb43 | hb43
     ·
      refine C_region ?_
      refine W_move rfl rfl ?_
      refine W_gtr rfl rfl rfl ?_
      refine W_move rfl rfl ?_
      refine W_known (t := 59) false rfl hb42 ?_
      refine W_guard_yes rfl ?_
      refine W_move rfl rfl ?_
      refine W_guard_yes rfl ?_
      refine W_gtr rfl rfl rfl ?_
      refine W_guard_yes rfl ?_
      refine W_move rfl rfl ?_
      refine W_known (t := 62) true rfl hb43 ?_
      refine W_guard_yes rfl ?_
      refine W_move rfl rfl ?_
      refine W_guard_yes rfl ?_
      refine W_gtr rfl rfl rfl ?_
      refine W_guard_yes rfl ?_
      refine W_pick_t rfl rfl rfl ?_
      refine W_pick_f rfl rfl rfl ?_
      refine W_assign rfl rfl ?_
      refine W_nil ?_
      exact N_join _ ⟨rfl, F1, (Frz.le.refl _), hS1⟩ ⟨rfl, rfl, rfl, rfl, rfl, (look_bool rfl (by first | rfl | (rw [hb42, hb43]; first | done | rfl) | simp [hb42, hb43])), trivial⟩
     ·
      refine C_region ?_
      refine W_move rfl rfl ?_
      refine W_gtr rfl rfl rfl ?_
      refine W_move rfl rfl ?_
      refine W_known (t := 59) false rfl hb42 ?_
      refine W_guard_yes rfl ?_
      refine W_move rfl rfl ?_
      refine W_guard_yes rfl ?_
      refine W_gtr rfl rfl rfl ?_
      refine W_guard_yes rfl ?_
      refine W_move rfl rfl ?_
      refine W_known (t := 62) false rfl hb43 ?_
      refine W_guard_no rfl rfl rfl rfl rfl ?_
      refine W_guard_no rfl rfl rfl rfl rfl ?_
      refine W_guard_yes rfl ?_
      refine W_pick_f rfl rfl rfl ?_
      refine W_pick_f rfl rfl rfl ?_
      refine W_assign rfl rfl ?_
      refine W_nil ?_
      exact N_join _ ⟨rfl, F1, (Frz.le.refl _), hS1⟩ ⟨rfl, rfl, rfl, rfl, rfl, (look_bool rfl (by first | rfl | (rw [hb42, hb43]; first | done | rfl) | simp [hb42, hb43])), trivial⟩
   rintro E w41 ⟨rfl, F41, le41, hS41⟩
   refine N_code ?_
   refine C_cond rfl (fun hc44 => ?_) (fun hc44 => ?_)
   ·
    rw [if_t hc44] at H
    refine C_region ?_
    refine W_assign rfl rfl ?_
    refine W_nil ?_
    refine N_block ?_
    exact N_join _ ⟨2, H, ⟨F41, rfl, le41, hS41⟩⟩ ⟨rfl, rfl, rfl, rfl, trivial⟩
   ·
    rw [if_f hc44] at H
    refine C_seq ?_
    refine C_join (fun E wq => E = [(0, .int .i64 (wr ((wu x0).tmod 8))), (1, .int .i64 (wr (199 + wr ((wu x1).tmod 3)))), (7, u3), (11, .int .i64 0), (67, .bool (decide (0 < wr ((wu x0).tmod 8)) && decide (20 < wr (19 + wr ((wu x2).tmod 3)))))] ∧ ∃ F45 : Frz, F41.le F45 ∧ St [] w F F45 [.row File.t 34 u3 l2] wq) ?_ ?_
    ·
     rcases Bool.eq_false_or_eq_true (decide (0 < wr ((wu x0).tmod 8))) with hb46 | hb46
     ·
      refine C_region ?_
      refine W_move rfl rfl ?_
      refine W_gtr rfl rfl rfl ?_
      refine W_move rfl rfl ?_
      refine W_known (t := 70) true rfl hb46 ?_
      refine W_guard_yes rfl ?_
      refine W_move rfl rfl ?_
      refine W_guard_yes rfl ?_
      refine W_gtr rfl rfl rfl ?_
      refine W_pick_t rfl rfl rfl ?_
      refine W_assign rfl rfl ?_
      refine W_nil ?_
      exact N_join _ ⟨rfl, F41, (Frz.le.refl _), hS41⟩ ⟨rfl, rfl, rfl, rfl, (look_bool rfl (by first | rfl | (rw [hb46]; first | done | rfl) | simp [hb46])), trivial⟩
     ·
      refine C_region ?_
      refine W_move rfl rfl ?_
      refine W_gtr rfl rfl rfl ?_
      refine W_move rfl rfl ?_
      refine W_known (t := 70) false rfl hb46 ?_
      refine W_guard_no rfl rfl rfl rfl rfl ?_
      refine W_guard_no rfl rfl rfl rfl rfl ?_
      refine W_pick_f rfl rfl rfl ?_
      refine W_assign rfl rfl ?_
      refine W_nil ?_
      exact N_join _ ⟨rfl, F41, (Frz.le.refl _), hS41⟩ ⟨rfl, rfl, rfl, rfl, (look_bool rfl (by first | rfl | (rw [hb46]; first | done | rfl) | simp [hb46])), trivial⟩
    rintro E w45 ⟨rfl, F45, le45, hS45⟩
    refine N_code ?_
    refine C_cond rfl (fun hc47 => ?_) (fun hc47 => ?_)
    ·
     rw [if_t hc47] at H
     refine C_region ?_
     refine W_assign rfl rfl ?_
     refine W_nil ?_
     refine N_block ?_
     exact N_join _ ⟨1, H, ⟨F45, rfl, (le41.trans le45), hS45⟩⟩ ⟨rfl, rfl, rfl, rfl, trivial⟩
    ·
     rw [if_f hc47] at H
     refine C_skip ?_
     refine N_block ?_
     exact N_join _ ⟨0, H, ⟨F45, rfl, (le41.trans le45), hS45⟩⟩ ⟨rfl, rfl, rfl, rfl, trivial⟩
  ·
   rintro E w5 ⟨i6, H, F5, rfl, le5, hS5⟩
   dsimp only [cellarerlaw05_TreeBounds.k2] at H
   refine C_seq ?_
   obtain ⟨r7, hr7, H⟩ := bd_some H
   refine C_region ?_
   refine W_move rfl rfl ?_
   obtain ⟨F8, le8, hf8, hS8⟩ := hS5.freeze 0 [] rfl (by decide) (by decide)
   refine W_call rfl Ty.named19 rfl (tree_Sort_ok hS8.agree hf8 hr7) ?_
   rintro v9 w9 ⟨Fr7, ur7_0, rfl, hT9⟩
   have hS9 := hS8.call hT9
   have ler7 := hT9.ext
   refine W_move rfl rfl ?_
   refine W_extract rfl rfl rfl ?_
   refine W_extract rfl rfl rfl ?_
   refine W_assign rfl rfl ?_
   refine W_assign rfl rfl ?_
   refine W_nil ?_
   refine N_code ?_
   refine C_seq ?_
   refine C_seq ?_
   obtain ⟨r10, hr10, H⟩ := bd_some H
   refine C_join (fun E wq => E = [(0, .int .i64 (wr ((wu x0).tmod 8))), (1, .int .i64 (wr (199 + wr ((wu x1).tmod 3)))), (7, u3), (11, .int .i64 i6), (12, ur7_0), (96, .bool ((decide (r10 ≠ i6) || decide (r7.2 ≠ i6)) || (decide (i6 ≠ 0) && decide (0 < (r7.1.length : Int)))))] ∧ ∃ F11 : Frz, Fr7.le F11 ∧ St [] w F F11 [.row File.t 34 ur7_0 r7.1] wq) ?_ ?_
   ·
    rcases Bool.eq_false_or_eq_true (decide (r10 ≠ i6)) with hb12 | hb12
    ·
     refine C_region ?_
     refine W_move rfl rfl ?_
     refine W_call rfl Ty.named21 rfl (tree_Check_ok hS9.agree (hf8.mono ler7) hr10) ?_
     rintro v13 w13 ⟨Fr10, rfl, hT13⟩
     have hS13 := hS9.lent hT13
     refine W_move rfl rfl ?_
     refine W_neq rfl rfl rfl ?_
     refine W_move rfl rfl ?_
     refine W_known (t := 83) true rfl hb12 ?_
     refine W_guard_no rfl rfl rfl rfl rfl ?_
     refine W_guard_no rfl rfl rfl rfl rfl ?_
     refine W_guard_no rfl rfl rfl rfl rfl ?_
     refine W_pick_t rfl rfl rfl ?_
     refine W_move rfl rfl ?_
     refine W_guard_no rfl rfl rfl rfl rfl ?_
     refine W_guard_no rfl rfl rfl rfl rfl ?_
     refine W_guard_no rfl rfl rfl rfl rfl ?_
     refine W_guard_un rfl rfl rfl rfl ?_
     refine W_guard_un rfl rfl rfl rfl ?_
     refine W_guard_un rfl rfl rfl rfl ?_
     refine W_guard_no rfl rfl rfl rfl rfl ?_
     refine W_pick_t rfl rfl rfl ?_
     refine W_nil ?_
     exact N_join _ ⟨rfl, Fr7, (Frz.le.refl _), hS13⟩ ⟨rfl, rfl, rfl, rfl, rfl, (look_bool rfl (by first | rfl | (rw [hb12]; first | done | rfl) | simp [hb12])), trivial⟩
    ·
     rcases Bool.eq_false_or_eq_true (decide (r7.2 ≠ i6)) with hb14 | hb14
     ·
      refine C_region ?_
      refine W_move rfl rfl ?_
      refine W_call rfl Ty.named21 rfl (tree_Check_ok hS9.agree (hf8.mono ler7) hr10) ?_
      rintro v15 w15 ⟨Fr10, rfl, hT15⟩
      have hS15 := hS9.lent hT15
      refine W_move rfl rfl ?_
      refine W_neq rfl rfl rfl ?_
      refine W_move rfl rfl ?_
      refine W_known (t := 83) false rfl hb12 ?_
      refine W_guard_yes rfl ?_
      refine W_move rfl rfl ?_
      refine W_guard_yes rfl ?_
      refine W_move rfl rfl ?_
      refine W_guard_yes rfl ?_
      refine W_neq rfl rfl rfl ?_
      refine W_pick_f rfl rfl rfl ?_
      refine W_move rfl rfl ?_
      refine W_known (t := 88) true rfl hb14 ?_
      refine W_guard_no rfl rfl rfl rfl rfl ?_
      refine W_guard_no rfl rfl rfl rfl rfl ?_
      refine W_guard_no rfl rfl rfl rfl rfl ?_
      refine W_guard_un rfl rfl rfl rfl ?_
      refine W_guard_un rfl rfl rfl rfl ?_
      refine W_guard_un rfl rfl rfl rfl ?_
      refine W_guard_no rfl rfl rfl rfl rfl ?_
      refine W_pick_t rfl rfl rfl ?_
      refine W_nil ?_
      exact N_join _ ⟨rfl, Fr7, (Frz.le.refl _), hS15⟩ ⟨rfl, rfl, rfl, rfl, rfl, (look_bool rfl (by first | rfl | (rw [hb14, hb12]; first | done | rfl) | simp [hb12, hb14])), trivial⟩
     ·
      rcases Bool.eq_false_or_eq_true (decide (i6 ≠ 0)) with hb16 | hb16
      ·
       refine C_region ?_
       refine W_move rfl rfl ?_
       refine W_call rfl Ty.named21 rfl (tree_Check_ok hS9.agree (hf8.mono ler7) hr10) ?_
       rintro v17 w17 ⟨Fr10, rfl, hT17⟩
       have hS17 := hS9.lent hT17
       refine W_move rfl rfl ?_
       refine W_neq rfl rfl rfl ?_
       refine W_move rfl rfl ?_
       refine W_known (t := 83) false rfl hb12 ?_
       refine W_guard_yes rfl ?_
       refine W_move rfl rfl ?_
       refine W_guard_yes rfl ?_
       refine W_move rfl rfl ?_
       refine W_guard_yes rfl ?_
       refine W_neq rfl rfl rfl ?_
       refine W_pick_f rfl rfl rfl ?_
       refine W_move rfl rfl ?_
       refine W_known (t := 88) false rfl hb14 ?_
       refine W_guard_yes rfl ?_
       refine W_move rfl rfl ?_
       refine W_guard_yes rfl ?_
       refine W_neq rfl rfl rfl ?_
       refine W_guard_yes rfl ?_
       refine W_move rfl rfl ?_
       refine W_known (t := 91) true rfl hb16 ?_
       refine W_guard_yes rfl ?_
       refine W_move rfl rfl ?_
       refine W_guard_yes rfl ?_
       refine W_lenv rfl Go.Proofs.Try.underlying27 rfl (hS17.rowLn (k := 0) rfl) ?_
       refine W_guard_yes rfl ?_
       refine W_gtr rfl rfl rfl ?_
       refine W_guard_yes rfl ?_
       refine W_pick_t rfl rfl rfl ?_
       refine W_pick_f rfl rfl rfl ?_
       refine W_nil ?_
       exact N_join _ ⟨rfl, Fr7, (Frz.le.refl _), hS17⟩ ⟨rfl, rfl, rfl, rfl, rfl, (look_bool rfl (by first | rfl | (rw [hb14, hb12, hb16]; first | done | rfl) | simp [hb12, hb14, hb16])), trivial⟩
      ·
       refine C_region ?_
       refine W_move rfl rfl ?_
       refine W_call rfl Ty.named21 rfl (tree_Check_ok hS9.agree (hf8.mono ler7) hr10) ?_
       rintro v18 w18 ⟨Fr10, rfl, hT18⟩
       have hS18 := hS9.lent hT18
       refine W_move rfl rfl ?_
       refine W_neq rfl rfl rfl ?_
       refine W_move rfl rfl ?_
       refine W_known (t := 83) false rfl hb12 ?_
       refine W_guard_yes rfl ?_
       refine W_move rfl rfl ?_
       refine W_guard_yes rfl ?_
       refine W_move rfl rfl ?_
       refine W_guard_yes rfl ?_
       refine W_neq rfl rfl rfl ?_
       refine W_pick_f rfl rfl rfl ?_
       refine W_move rfl rfl ?_
       refine W_known (t := 88) false rfl hb14 ?_
       refine W_guard_yes rfl ?_
       refine W_move rfl rfl ?_
       refine W_guard_yes rfl ?_
       refine W_neq rfl rfl rfl ?_
       refine W_guard_yes rfl ?_
       refine W_move rfl rfl ?_
       refine W_known (t := 91) false rfl hb16 ?_
       refine W_guard_no rfl rfl rfl rfl rfl ?_
       refine W_guard_no rfl rfl rfl rfl rfl ?_
       refine W_guard_no rfl rfl rfl rfl rfl ?_
       refine W_guard_yes rfl ?_
       refine W_pick_f rfl rfl rfl ?_
       refine W_pick_f rfl rfl rfl ?_
       refine W_nil ?_
       exact N_join _ ⟨rfl, Fr7, (Frz.le.refl _), hS18⟩ ⟨rfl, rfl, rfl, rfl, rfl, (look_bool rfl (by first | rfl | (rw [hb14, hb12, hb16]; first | done | rfl) | simp [hb12, hb14, hb16])), trivial⟩
   rintro E w11 ⟨rfl, F11, le11, hS11⟩
   refine N_code ?_
   refine C_cond rfl (fun hc19 => ?_) (fun hc19 => ?_)
   ·
    rw [if_t hc19] at H
    refine C_seq ?_
    refine C_region ?_
    refine W_assign rfl rfl ?_
    refine W_nil ?_
    refine N_code ?_
    obtain rfl := Option.some.inj H
    refine C_ret rfl rfl ?_
    exact ⟨F11, rfl, hS11.pick [] (by decide)⟩
   ·
    rw [if_f hc19] at H
    refine C_skip ?_
    refine N_code ?_
    refine C_seq ?_
    obtain ⟨r20, hr20, H⟩ := bd_some H
    obtain ⟨r21, hr21, H⟩ := bd_some H
    obtain ⟨r22, hr22, H⟩ := bd_some H
    refine C_join (fun E wq => E = [(6, .bool ((decide (i6 ≠ 0) || (r20 && decide (r21 = wr (wr ((wu x0).tmod 8) * wr (199 + wr ((wu x1).tmod 3)))))) && r22))] ∧ ∃ F23 : Frz, F11.le F23 ∧ St [] w F F23 [.row File.t 34 ur7_0 r7.1] wq) ?_ ?_
    ·
     rcases Bool.eq_false_or_eq_true (decide (i6 ≠ 0)) with hb24 | hb24
     ·
      refine C_region ?_
      refine W_move rfl rfl ?_
      refine W_neq rfl rfl rfl ?_
      refine W_move rfl rfl ?_
      refine W_known (t := 99) true rfl hb24 ?_
      refine W_guard_no rfl rfl rfl rfl rfl ?_
      refine W_guard_no rfl rfl rfl rfl rfl ?_
      refine W_guard_no rfl rfl rfl rfl rfl ?_
      refine W_guard_no rfl rfl rfl rfl rfl ?_
      refine W_guard_un rfl rfl rfl rfl ?_
      refine W_guard_un rfl rfl rfl rfl ?_
      refine W_guard_un rfl rfl rfl rfl ?_
      refine W_guard_un rfl rfl rfl rfl ?_
      refine W_guard_un rfl rfl rfl rfl ?_
      refine W_guard_un rfl rfl rfl rfl ?_
      refine W_guard_no rfl rfl rfl rfl rfl ?_
      refine W_pick_t rfl rfl rfl ?_
      refine W_move rfl rfl ?_
      refine W_guard_yes rfl ?_
      have hy25 := hr22
      rw [only_t (by first | rfl | (rw [hb24]; first | done | rfl) | simp [hb24])] at hy25
      refine W_call rfl Ty.named16 rfl (cellarerlaw05_wakes_ok hS11.agree hy25) ?_
      rintro v26 w26 ⟨Fr22, rfl, hT26⟩
      have hS26 := hS11.lent hT26
      refine W_pick_t rfl rfl rfl ?_
      refine W_assign rfl rfl ?_
      refine W_nil ?_
      exact N_join _ ⟨rfl, F11, (Frz.le.refl _), hS26⟩ ⟨(look_bool rfl (by first | rfl | (rw [hb24]; first | done | rfl) | simp [hb24])), trivial⟩
     ·
      rcases Bool.eq_false_or_eq_true r20 with hb27 | hb27
      ·
       rcases Bool.eq_false_or_eq_true (decide (r21 = wr (wr ((wu x0).tmod 8) * wr (199 + wr ((wu x1).tmod 3))))) with hb28 | hb28
       ·
        refine C_region ?_
        refine W_move rfl rfl ?_
        refine W_neq rfl rfl rfl ?_
        refine W_move rfl rfl ?_
        refine W_known (t := 99) false rfl hb24 ?_
        refine W_guard_yes rfl ?_
        refine W_move rfl rfl ?_
        refine W_guard_yes rfl ?_
        refine W_move rfl rfl ?_
        refine W_guard_yes rfl ?_
        have hy29 := hr20
        rw [only_t (by first | rfl | (rw [hb24]; first | done | rfl) | simp [hb24, hb27, hb28])] at hy29
        refine W_call rfl Ty.named27 rfl (tree_Same_ok (now_agree _) (hS11.rowNow (k := 0) rfl) ((hf8.mono (ler7.trans le11)).mono hS11.agree) hy29) ?_
        rintro v30 w30 ⟨Fr20, rfl, hT30⟩
        have hS30 := hS11.lent hT30
        refine W_guard_yes rfl ?_
        refine W_move rfl rfl ?_
        refine W_known (t := 103) true rfl hb27 ?_
        refine W_guard_yes rfl ?_
        refine W_move rfl rfl ?_
        refine W_guard_yes rfl ?_
        have hy31 := hr21
        rw [only_t (by first | rfl | (rw [hb24, hb27]; first | done | rfl) | simp [hb24, hb27, hb28])] at hy31
        refine W_call rfl Ty.named24 rfl (tree_Size_ok (now_agree _) (hS30.rowNow (k := 0) rfl) hy31) ?_
        rintro v32 w32 ⟨Fr21, rfl, hT32⟩
        have hS32 := hS30.lent hT32
        refine W_guard_yes rfl ?_
        refine W_move rfl rfl ?_
        refine W_guard_yes rfl ?_
        refine W_move rfl rfl ?_
        refine W_guard_yes rfl ?_
        refine W_mul rfl rfl rfl rfl ?_
        refine W_guard_yes rfl ?_
        refine W_eql rfl rfl rfl ?_
        refine W_guard_yes rfl ?_
        refine W_pick_t rfl rfl rfl ?_
        refine W_pick_f rfl rfl rfl ?_
        refine W_move rfl rfl ?_
        refine W_known (t := 112) true rfl hb28 ?_
        refine W_guard_yes rfl ?_
        have hy33 := hr22
        rw [only_t (by first | rfl | (rw [hb28, hb24, hb27]; first | done | rfl) | simp [hb24, hb27, hb28])] at hy33
        refine W_call rfl Ty.named16 rfl (cellarerlaw05_wakes_ok hS32.agree hy33) ?_
        rintro v34 w34 ⟨Fr22, rfl, hT34⟩
        have hS34 := hS32.lent hT34
        refine W_pick_t rfl rfl rfl ?_
        refine W_assign rfl rfl ?_
        refine W_nil ?_
        exact N_join _ ⟨rfl, F11, (Frz.le.refl _), hS34⟩ ⟨(look_bool rfl (by first | rfl | (rw [hb28, hb24, hb27]; first | done | rfl) | simp [hb24, hb27, hb28])), trivial⟩
       ·
        refine C_region ?_
        refine W_move rfl rfl ?_
        refine W_neq rfl rfl rfl ?_
        refine W_move rfl rfl ?_
        refine W_known (t := 99) false rfl hb24 ?_
        refine W_guard_yes rfl ?_
        refine W_move rfl rfl ?_
        refine W_guard_yes rfl ?_
        refine W_move rfl rfl ?_
        refine W_guard_yes rfl ?_
        have hy35 := hr20
        rw [only_t (by first | rfl | (rw [hb24]; first | done | rfl) | simp [hb24, hb27, hb28])] at hy35
        refine W_call rfl Ty.named27 rfl (tree_Same_ok (now_agree _) (hS11.rowNow (k := 0) rfl) ((hf8.mono (ler7.trans le11)).mono hS11.agree) hy35) ?_
        rintro v36 w36 ⟨Fr20, rfl, hT36⟩
        have hS36 := hS11.lent hT36
        refine W_guard_yes rfl ?_
        refine W_move rfl rfl ?_
        refine W_known (t := 103) true rfl hb27 ?_
        refine W_guard_yes rfl ?_
        refine W_move rfl rfl ?_
        refine W_guard_yes rfl ?_
        have hy37 := hr21
        rw [only_t (by first | rfl | (rw [hb24, hb27]; first | done | rfl) | simp [hb24, hb27, hb28])] at hy37
        refine W_call rfl Ty.named24 rfl (tree_Size_ok (now_agree _) (hS36.rowNow (k := 0) rfl) hy37) ?_
        rintro v38 w38 ⟨Fr21, rfl, hT38⟩
        have hS38 := hS36.lent hT38
        refine W_guard_yes rfl ?_
        refine W_move rfl rfl ?_
        refine W_guard_yes rfl ?_
        refine W_move rfl rfl ?_
        refine W_guard_yes rfl ?_
        refine W_mul rfl rfl rfl rfl ?_
        refine W_guard_yes rfl ?_
        refine W_eql rfl rfl rfl ?_
        refine W_guard_yes rfl ?_
        refine W_pick_t rfl rfl rfl ?_
        refine W_pick_f rfl rfl rfl ?_
        refine W_move rfl rfl ?_
        refine W_known (t := 112) false rfl hb28 ?_
        refine W_guard_no rfl rfl rfl rfl rfl ?_
        refine W_pick_f rfl rfl rfl ?_
        refine W_assign rfl rfl ?_
        refine W_nil ?_
        exact N_join _ ⟨rfl, F11, (Frz.le.refl _), hS38⟩ ⟨(look_bool rfl (by first | rfl | (rw [hb28, hb24, hb27]; first | done | rfl) | simp [hb24, hb27, hb28])), trivial⟩
      ·
       refine C_region ?_
       refine W_move rfl rfl ?_
       refine W_neq rfl rfl rfl ?_
       refine W_move rfl rfl ?_
       refine W_known (t := 99) false rfl hb24 ?_
       refine W_guard_yes rfl ?_
       refine W_move rfl rfl ?_
       refine W_guard_yes rfl ?_
       refine W_move rfl rfl ?_
       refine W_guard_yes rfl ?_
       have hy39 := hr20
       rw [only_t (by first | rfl | (rw [hb24]; first | done | rfl) | simp [hb24, hb27])] at hy39
       refine W_call rfl Ty.named27 rfl (tree_Same_ok (now_agree _) (hS11.rowNow (k := 0) rfl) ((hf8.mono (ler7.trans le11)).mono hS11.agree) hy39) ?_
       rintro v40 w40 ⟨Fr20, rfl, hT40⟩
       have hS40 := hS11.lent hT40
       refine W_guard_yes rfl ?_
       refine W_move rfl rfl ?_
       refine W_known (t := 103) false rfl hb27 ?_
       refine W_guard_no rfl rfl rfl rfl rfl ?_
       refine W_guard_no rfl rfl rfl rfl rfl ?_
       refine W_guard_no rfl rfl rfl rfl rfl ?_
       refine W_guard_no rfl rfl rfl rfl rfl ?_
       refine W_guard_no rfl rfl rfl rfl rfl ?_
       refine W_guard_no rfl rfl rfl rfl rfl ?_
       refine W_guard_yes rfl ?_
       refine W_pick_f rfl rfl rfl ?_
       refine W_pick_f rfl rfl rfl ?_
       refine W_move rfl rfl ?_
       refine W_guard_no rfl rfl rfl rfl rfl ?_
       refine W_pick_f rfl rfl rfl ?_
       refine W_assign rfl rfl ?_
       refine W_nil ?_
       exact N_join _ ⟨rfl, F11, (Frz.le.refl _), hS40⟩ ⟨(look_bool rfl (by first | rfl | (rw [hb24, hb27]; first | done | rfl) | simp [hb24, hb27])), trivial⟩
    rintro E w23 ⟨rfl, F23, le23, hS23⟩
    refine N_code ?_
    obtain rfl := Option.some.inj H
    refine C_ret rfl rfl ?_
    exact ⟨F23, rfl, hS23.pick [] (by decide)⟩

end
end Go.Wk.Lf
