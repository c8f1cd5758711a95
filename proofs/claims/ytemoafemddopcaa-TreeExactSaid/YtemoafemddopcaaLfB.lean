import Derived.Test.YtemoafemddopcaaLfT
import Derived.Test.YtemoafemddopcaaTy
namespace Go.Wk.Lf
open Go.V Go.Proofs
set_option linter.unusedVariables false
set_option linter.unusedSimpArgs false
noncomputable section

def cellarerlaw05_Heavy.k1 : Option Bool :=
  some false


def cellarerlaw05_Heavy.l2 (x0 : List File) (rec5 : Int → Option Bool) : Int → Option Bool
  | i4 =>
    if decide (i4 < (x0.length : Int)) then
      bd (ix x0 i4) fun x7 =>
      bd (only (!decide (500 < (x7.data.length : Int))) (ix x0 i4) (File.mk [] [])) fun x9 =>
      if (decide (500 < (x7.data.length : Int)) || decide (100 < (x9.path.length : Int))) then
        some true
      else
        rec5 (wr (i4 + 1))
    else
      cellarerlaw05_Heavy.k1

def cellarerlaw05_Heavy (x0 : List File) : Option Bool :=
  if decide (20 < (x0.length : Int)) then
    some true
  else
    loop (cellarerlaw05_Heavy.l2 x0) 0

set_option maxRecDepth 100000 in
theorem cellarerlaw05_Heavy_ok {K : Tb} {F : Frz} {w : Hp} {x0 : List File} {r : Bool} {v0 : Val} (hA : Gd F w) (h0 : SlF File.t F v0 x0) (H : cellarerlaw05_Heavy x0 = some r) : Ret Try.prog K 4 [v0] w fun v w' => ∃ (F' : Frz), v = .b r ∧ St [] w F F' [] w' := by
 refine Ret_of (args := [v0]) Go.Proofs.Try.func4 rfl (by decide) rfl ?_
 change C _ _ _ _ _ [(0, v0)] _
 have hS := St.start hA
 dsimp only [cellarerlaw05_Heavy] at H
 refine C_seq ?_
 refine C_region rfl ?_
 refine W_c rfl rfl rfl rfl (fun _ => rfl) ?_
 refine W_nil ?_
 refine N_code ?_
 refine C_seq ?_
 refine C_seq ?_
 refine C_region rfl ?_
 refine W_c rfl rfl rfl rfl (fun _ => rfl) ?_
 refine W_r rfl rfl rfl (O_len Go.Proofs.Try.underlying22 rfl h0.ln) ?_
 refine W_r rfl rfl rfl (O_bin rfl rfl bI_gtr) ?_
 refine W_nil ?_
 refine N_code ?_
 refine C_cond rfl (fun hc1 => ?_) (fun hc1 => ?_)
 ·
  rw [if_t hc1] at H
  refine C_seq ?_
  refine C_region rfl ?_
  refine W_c rfl rfl rfl rfl (fun _ => rfl) ?_
  refine W_nil ?_
  refine N_code ?_
  obtain rfl := Option.some.inj H
  refine C_ret rfl rfl ?_
  exact ⟨F, rfl, hS⟩
 ·
  rw [if_f hc1] at H
  refine C_skip ?_
  refine N_code ?_
  refine C_seq_join (fun E wq => cellarerlaw05_Heavy.k1 = some r ∧ ∃ (F2 : Frz), E = [] ∧ F.le F2 ∧ St [] w F F2 [] wq) ?_ ?_
  ·
   refine C_seq ?_
   refine C_region rfl ?_
   refine W_c rfl rfl rfl rfl (fun _ => rfl) ?_
   refine W_nil ?_
   refine N_code ?_
   refine C_block ?_
   refine C_loopM (fun (s : Int) E wq => ∃ (F3 : Frz), E = [(0, v0), (3, .i .i64 s)] ∧ F.le F3 ∧ St [] w F F3 [] wq) H ?_ ?_
   ·
    exact ⟨_, ⟨F, rfl, (Frz.le.refl _), hS⟩, ⟨rfl, rfl, trivial⟩⟩
   ·
    rintro rec5 i4 E w3 hI H
    try dsimp only at hI
    obtain ⟨F3, rfl, le3, hS3⟩ := hI
    dsimp only [cellarerlaw05_Heavy.l2] at H
    refine C_seq ?_
    refine C_seq ?_
    refine C_region rfl ?_
    refine W_c rfl rfl rfl rfl (fun _ => rfl) ?_
    refine W_c rfl rfl rfl rfl (fun _ => rfl) ?_
    refine W_r rfl rfl rfl (O_len Go.Proofs.Try.underlying22 rfl h0.ln) ?_
    refine W_r rfl rfl rfl (O_bin rfl rfl bI_lss) ?_
    refine W_nil ?_
    refine N_code ?_
    refine C_cond rfl (fun hc6 => ?_) (fun hc6 => ?_)
    ·
     rw [if_t hc6] at H
     refine C_skip ?_
     refine N_code ?_
     refine C_seq ?_
     refine C_block ?_
     refine C_seq ?_
     obtain ⟨x7, hx7, H⟩ := bd_some H
     obtain ⟨x9, hx9, H⟩ := bd_some H
     refine C_join (fun E wq => E = [(0, v0), (3, .i .i64 i4), (28, .b (decide (500 < (x7.data.length : Int)) || decide (100 < (x9.path.length : Int))))] ∧ ∃ F11 : Frz, F3.le F11 ∧ St [] w F F11 [] wq) ?_ ?_
     ·
      rcases Bool.eq_false_or_eq_true (decide (500 < (x7.data.length : Int))) with hb12 | hb12
      ·
       refine C_region rfl ?_
       refine W_c rfl rfl rfl rfl (fun _ => rfl) ?_
       refine W_c rfl rfl rfl rfl (fun _ => rfl) ?_
       obtain ⟨hp13, hy13⟩ := ix_some hx7
       obtain ⟨cs13, hr13, he13⟩ := (h0.mono le3).el hy13
       obtain ⟨ue8_0, rfl, hue8_0⟩ := hr13
       replace he13 : Elf _ _ 2 _ _ := he13
       have hi13 := he13.ixd
       refine W_r rfl rfl rfl (O_ix Go.Proofs.Try.underlying22 Ty.size30 rfl rfl hi13 hp13 rfl) ?_
       refine W_r rfl rfl rfl (O_fld 1 Ty.field30_1 rfl hi13) ?_
       refine W_r rfl rfl rfl (O_ld1 1 Ty.cell28 rfl (he13.mono hS3.agree) (by omega) rfl) ?_
       refine W_r rfl rfl rfl (O_len Go.Proofs.Try.underlying28 rfl hue8_0.ln) ?_
       refine W_r rfl rfl rfl (O_bin rfl rfl bI_gtr) ?_
       refine W_c rfl rfl rfl rfl (fun _ => rfl) ?_
       refine W_eqv (t := 20) (v' := .b true) rfl (congrArg Val.b hb12) ?_
       refine W_no rfl rfl rfl ?_
       refine W_no rfl rfl rfl ?_
       refine W_no rfl rfl rfl ?_
       refine W_no rfl rfl rfl ?_
       refine W_no rfl rfl rfl ?_
       refine W_no rfl rfl rfl ?_
       refine W_no rfl rfl rfl ?_
       refine W_c rfl rfl rfl rfl (fun _ => rfl) ?_
       refine W_nil ?_
       exact N_join _ ⟨rfl, F3, (Frz.le.refl _), hS3⟩ ⟨rfl, rfl, (look_bool rfl (by first | rfl | (rw [hb12]; first | done | rfl) | simp [hb12])), trivial⟩
      ·
       refine C_region rfl ?_
       refine W_c rfl rfl rfl rfl (fun _ => rfl) ?_
       refine W_c rfl rfl rfl rfl (fun _ => rfl) ?_
       obtain ⟨hp14, hy14⟩ := ix_some hx7
       obtain ⟨cs14, hr14, he14⟩ := (h0.mono le3).el hy14
       obtain ⟨ue8_0, rfl, hue8_0⟩ := hr14
       replace he14 : Elf _ _ 2 _ _ := he14
       have hi14 := he14.ixd
       refine W_r rfl rfl rfl (O_ix Go.Proofs.Try.underlying22 Ty.size30 rfl rfl hi14 hp14 rfl) ?_
       refine W_r rfl rfl rfl (O_fld 1 Ty.field30_1 rfl hi14) ?_
       refine W_r rfl rfl rfl (O_ld1 1 Ty.cell28 rfl (he14.mono hS3.agree) (by omega) rfl) ?_
       refine W_r rfl rfl rfl (O_len Go.Proofs.Try.underlying28 rfl hue8_0.ln) ?_
       refine W_r rfl rfl rfl (O_bin rfl rfl bI_gtr) ?_
       refine W_c rfl rfl rfl rfl (fun _ => rfl) ?_
       refine W_eqv (t := 20) (v' := .b false) rfl (congrArg Val.b hb12) ?_
       refine W_c rfl rfl rfl rfl (fun _ => rfl) ?_
       refine W_c rfl rfl rfl rfl (fun _ => rfl) ?_
       have hy15 := hx9
       rw [only_t (by first | rfl | (rw [hb12]; first | done | rfl) | simp [hb12])] at hy15
       obtain ⟨hp16, hy16⟩ := ix_some hy15
       obtain ⟨cs16, hr16, he16⟩ := (h0.mono le3).el hy16
       obtain ⟨ue10_0, rfl, hue10_0⟩ := hr16
       replace he16 : Elf _ _ 2 _ _ := he16
       have hi16 := he16.ixd
       refine W_r rfl rfl rfl (O_ix Go.Proofs.Try.underlying22 Ty.size30 rfl rfl hi16 hp16 rfl) ?_
       refine W_r rfl rfl rfl (O_fld 0 Ty.field30_0 rfl hi16) ?_
       refine W_r rfl rfl rfl (O_ld1 0 Ty.cell9 rfl (he16.mono hS3.agree) (by omega) rfl) ?_
       refine W_r rfl rfl rfl (O_lenS Go.Proofs.Try.underlying9 rfl) ?_
       refine W_r rfl rfl rfl (O_bin rfl rfl bI_gtr) ?_
       refine W_c rfl rfl rfl rfl (fun _ => rfl) ?_
       refine W_nil ?_
       exact N_join _ ⟨rfl, F3, (Frz.le.refl _), hS3⟩ ⟨rfl, rfl, (look_bool rfl (by first | rfl | (rw [hb12]; first | done | rfl) | simp [hb12])), trivial⟩
     rintro E w11 ⟨rfl, F11, le11, hS11⟩
     refine N_code ?_
     refine C_cond rfl (fun hc17 => ?_) (fun hc17 => ?_)
     ·
      rw [if_t hc17] at H
      refine C_seq ?_
      refine C_region rfl ?_
      refine W_c rfl rfl rfl rfl (fun _ => rfl) ?_
      refine W_nil ?_
      refine N_code ?_
      obtain rfl := Option.some.inj H
      refine C_ret rfl rfl ?_
      exact ⟨F11, rfl, hS11⟩
     ·
      rw [if_f hc17] at H
      refine C_skip ?_
      refine N_block ?_
      refine N_code ?_
      refine C_region rfl ?_
      refine W_c rfl rfl rfl rfl (fun _ => rfl) ?_
      refine W_c rfl rfl rfl rfl (fun _ => rfl) ?_
      refine W_c rfl rfl rfl rfl (fun _ => rfl) ?_
      refine W_nil ?_
      exact N_againM (wr (i4 + 1)) _ H ⟨F11, rfl, (le3.trans le11), hS11⟩ ⟨rfl, rfl, trivial⟩
    ·
     rw [if_f hc6] at H
     refine C_exit _ rfl ?_
     exact N_join _ ⟨H, ⟨F3, rfl, le3, hS3⟩⟩ trivial
  ·
   rintro E w2 ⟨H, F2, rfl, le2, hS2⟩
   dsimp only [cellarerlaw05_Heavy.k1] at H
   refine C_seq ?_
   refine C_region rfl ?_
   refine W_c rfl rfl rfl rfl (fun _ => rfl) ?_
   refine W_nil ?_
   refine N_code ?_
   obtain rfl := Option.some.inj H
   refine C_ret rfl rfl ?_
   exact ⟨F2, rfl, hS2⟩

def cellarerkeep_Bytes.k1 : Option Bool :=
  some true


def cellarerkeep_Bytes.l2 (x0 : List UInt8) (x1 : List UInt8) (rec5 : Int → Option Bool) : Int → Option Bool
  | i4 =>
    if decide (i4 < (x0.length : Int)) then
      bd (ix x0 i4) fun x7 =>
      bd (ix x1 i4) fun x9 =>
      if decide ((x7.toNat : Int) ≠ (x9.toNat : Int)) then
        some false
      else
        rec5 (wr (i4 + 1))
    else
      cellarerkeep_Bytes.k1

def cellarerkeep_Bytes (x0 : List UInt8) (x1 : List UInt8) : Option Bool :=
  if decide ((x0.length : Int) ≠ (x1.length : Int)) then
    some false
  else
    loop (cellarerkeep_Bytes.l2 x0 x1) 0

set_option maxRecDepth 100000 in
theorem cellarerkeep_Bytes_ok {K : Tb} {F : Frz} {w : Hp} {x0 : List UInt8} {x1 : List UInt8} {r : Bool} {v0 : Val} {v1 : Val} (hA : Gd F w) (h0 : SlF tB F v0 x0) (h1 : SlF tB F v1 x1) (H : cellarerkeep_Bytes x0 x1 = some r) : Ret Try.prog K 25 [v0, v1] w fun v w' => ∃ (F' : Frz), v = .b r ∧ St [] w F F' [] w' := by
 refine Ret_of (args := [v0, v1]) Go.Proofs.Try.func25 rfl (by decide) rfl ?_
 change C _ _ _ _ _ [(0, v0), (1, v1)] _
 have hS := St.start hA
 dsimp only [cellarerkeep_Bytes] at H
 refine C_seq ?_
 refine C_region rfl ?_
 refine W_c rfl rfl rfl rfl (fun _ => rfl) ?_
 refine W_nil ?_
 refine N_code ?_
 refine C_seq ?_
 refine C_seq ?_
 refine C_region rfl ?_
 refine W_c rfl rfl rfl rfl (fun _ => rfl) ?_
 refine W_r rfl rfl rfl (O_len Go.Proofs.Try.underlying28 rfl h0.ln) ?_
 refine W_c rfl rfl rfl rfl (fun _ => rfl) ?_
 refine W_r rfl rfl rfl (O_len Go.Proofs.Try.underlying28 rfl h1.ln) ?_
 refine W_r rfl rfl rfl (O_bin rfl rfl bI_neq) ?_
 refine W_nil ?_
 refine N_code ?_
 refine C_cond rfl (fun hc1 => ?_) (fun hc1 => ?_)
 ·
  rw [if_t hc1] at H
  refine C_seq ?_
  refine C_region rfl ?_
  refine W_c rfl rfl rfl rfl (fun _ => rfl) ?_
  refine W_nil ?_
  refine N_code ?_
  obtain rfl := Option.some.inj H
  refine C_ret rfl rfl ?_
  exact ⟨F, rfl, hS⟩
 ·
  rw [if_f hc1] at H
  refine C_skip ?_
  refine N_code ?_
  refine C_seq_join (fun E wq => cellarerkeep_Bytes.k1 = some r ∧ ∃ (F2 : Frz), E = [] ∧ F.le F2 ∧ St [] w F F2 [] wq) ?_ ?_
  ·
   refine C_seq ?_
   refine C_region rfl ?_
   refine W_c rfl rfl rfl rfl (fun _ => rfl) ?_
   refine W_nil ?_
   refine N_code ?_
   refine C_block ?_
   refine C_loopM (fun (s : Int) E wq => ∃ (F3 : Frz), E = [(0, v0), (1, v1), (5, .i .i64 s)] ∧ F.le F3 ∧ St [] w F F3 [] wq) H ?_ ?_
   ·
    exact ⟨_, ⟨F, rfl, (Frz.le.refl _), hS⟩, ⟨rfl, rfl, rfl, trivial⟩⟩
   ·
    rintro rec5 i4 E w3 hI H
    try dsimp only at hI
    obtain ⟨F3, rfl, le3, hS3⟩ := hI
    dsimp only [cellarerkeep_Bytes.l2] at H
    refine C_seq ?_
    refine C_seq ?_
    refine C_region rfl ?_
    refine W_c rfl rfl rfl rfl (fun _ => rfl) ?_
    refine W_c rfl rfl rfl rfl (fun _ => rfl) ?_
    refine W_r rfl rfl rfl (O_len Go.Proofs.Try.underlying28 rfl h0.ln) ?_
    refine W_r rfl rfl rfl (O_bin rfl rfl bI_lss) ?_
    refine W_nil ?_
    refine N_code ?_
    refine C_cond rfl (fun hc6 => ?_) (fun hc6 => ?_)
    ·
     rw [if_t hc6] at H
     refine C_skip ?_
     refine N_code ?_
     refine C_seq ?_
     refine C_block ?_
     refine C_seq ?_
     obtain ⟨x7, hx7, H⟩ := bd_some H
     obtain ⟨x9, hx9, H⟩ := bd_some H
     refine C_regionD (G := (nowF _)) [0, 1, 2, 3, 4, 5, 6, 7, 8] rfl Ty.mixed (by kernel_rfl) (nowF_agree _) ?_
     refine W_c rfl rfl rfl rfl (fun _ => rfl) ?_
     refine W_c rfl rfl rfl rfl (fun _ => rfl) ?_
     obtain ⟨hp11, hy11⟩ := ix_some hx7
     obtain ⟨cs11, hr11, he11⟩ := (h0.mono le3).el hy11
     obtain rfl := hr11
     replace he11 : Elf _ _ 1 _ _ := he11
     have hi11 := he11.ixd
     refine W_r rfl rfl rfl (O_ix Go.Proofs.Try.underlying28 Ty.size5 rfl rfl hi11 hp11 rfl) ?_
     refine W_r rfl rfl rfl (O_ld1 0 Ty.cell5 rfl (he11.mono hS3.agree) (by omega) rfl) ?_
     refine W_c rfl rfl rfl rfl (fun _ => rfl) ?_
     refine W_c rfl rfl rfl rfl (fun _ => rfl) ?_
     obtain ⟨hp12, hy12⟩ := ix_some hx9
     obtain ⟨cs12, hr12, he12⟩ := (h1.mono le3).el hy12
     obtain rfl := hr12
     replace he12 : Elf _ _ 1 _ _ := he12
     have hi12 := he12.ixd
     refine W_r rfl rfl rfl (O_ix Go.Proofs.Try.underlying28 Ty.size5 rfl rfl hi12 hp12 rfl) ?_
     refine W_r rfl rfl rfl (O_ld1 0 Ty.cell5 rfl (he12.mono hS3.agree) (by omega) rfl) ?_
     refine W_r rfl rfl rfl (O_bin rfl rfl bI_neq) ?_
     refine W_nil ?_
     refine N_code ?_
     refine C_cond rfl (fun hc13 => ?_) (fun hc13 => ?_)
     ·
      rw [if_t hc13] at H
      refine C_seq ?_
      refine C_region rfl ?_
      refine W_c rfl rfl rfl rfl (fun _ => rfl) ?_
      refine W_nil ?_
      refine N_code ?_
      obtain rfl := Option.some.inj H
      refine C_ret rfl rfl ?_
      exact ⟨F3, rfl, hS3⟩
     ·
      rw [if_f hc13] at H
      refine C_skip ?_
      refine N_block ?_
      refine N_code ?_
      refine C_region rfl ?_
      refine W_c rfl rfl rfl rfl (fun _ => rfl) ?_
      refine W_c rfl rfl rfl rfl (fun _ => rfl) ?_
      refine W_c rfl rfl rfl rfl (fun _ => rfl) ?_
      refine W_nil ?_
      exact N_againM (wr (i4 + 1)) _ H ⟨F3, rfl, le3, hS3⟩ ⟨rfl, rfl, rfl, trivial⟩
    ·
     rw [if_f hc6] at H
     refine C_exit _ rfl ?_
     exact N_join _ ⟨H, ⟨F3, rfl, le3, hS3⟩⟩ trivial
  ·
   rintro E w2 ⟨H, F2, rfl, le2, hS2⟩
   dsimp only [cellarerkeep_Bytes.k1] at H
   refine C_seq ?_
   refine C_region rfl ?_
   refine W_c rfl rfl rfl rfl (fun _ => rfl) ?_
   refine W_nil ?_
   refine N_code ?_
   obtain rfl := Option.some.inj H
   refine C_ret rfl rfl ?_
   exact ⟨F2, rfl, hS2⟩

def cellarerkeep_Twin (x0 : List UInt8) : Option (List UInt8) :=
  bd (app (α := UInt8) [] x0) fun l1 =>
  some l1

set_option maxRecDepth 100000 in
theorem cellarerkeep_Twin_ok {K : Tb} {F : Frz} {w : Hp} {x0 : List UInt8} {r : (List UInt8)} {v0 : Val} (hA : Gd F w) (h0 : SlF tB F v0 x0) (H : cellarerkeep_Twin x0 = some r) : Ret Try.prog K 16 [v0] w fun v w' => ∃ (F' : Frz) (q0 : Val), v = q0 ∧ St [] w F F' [.row tB q0 (r)] w' := by
 refine Ret_of (args := [v0]) Go.Proofs.Try.func16 rfl (by decide) rfl ?_
 change C _ _ _ _ _ [(0, v0)] _
 have hS := St.start hA
 dsimp only [cellarerkeep_Twin] at H
 refine C_seq ?_
 refine C_region rfl ?_
 refine W_c rfl rfl rfl rfl (fun _ => rfl) ?_
 refine W_nil ?_
 refine N_code ?_
 refine C_seq ?_
 refine C_region rfl ?_
 refine W_c rfl rfl rfl rfl (fun _ => rfl) ?_
 refine W_nil ?_
 refine N_code ?_
 refine C_seq ?_
 obtain ⟨l1, hl1, H⟩ := bd_some H
 refine C_region rfl ?_
 refine W_c rfl rfl rfl rfl (fun _ => rfl) ?_
 refine W_c rfl rfl rfl rfl (fun _ => rfl) ?_
 have hS3 := hS.nilRow tB
 refine W_x rfl rfl rfl (E_app (t := tB) 0 Go.Proofs.Try.underlying28 Ty.row5 Ty.zk28 rfl rfl hS3 rfl (h0.src hS3.agree) hl1) ?_
 rintro v2 w2 hS2
 refine Nxt.now ?_
 refine W_c rfl rfl rfl rfl (fun _ => rfl) ?_
 refine W_nil ?_
 refine N_code ?_
 obtain rfl := Option.some.inj H
 refine C_ret rfl rfl ?_
 exact ⟨F, v2, rfl, hS2⟩

def cellarerkeep_TwinFiles.k1 (l2 : List File) : Option (List File) :=
  some l2


def cellarerkeep_TwinFiles.l2 (x0 : List File) (rec10 : ((List File) × Int) → Option (List File)) : ((List File) × Int) → Option (List File)
  | (l6, i9) =>
    if decide (i9 < (x0.length : Int)) then
      bd (ix x0 i9) fun x12 =>
      bd (cellarerkeep_Twin x12.data) fun r14 =>
      bd (app (α := File) l6 [(File.mk x12.path r14)]) fun l16 =>
      rec10 (l16, wr (i9 + 1))
    else
      cellarerkeep_TwinFiles.k1 l6

def cellarerkeep_TwinFiles (x0 : List File) : Option (List File) :=
  loop (cellarerkeep_TwinFiles.l2 x0) ([], 0)

set_option maxRecDepth 100000 in
theorem cellarerkeep_TwinFiles_ok {K : Tb} {F : Frz} {w : Hp} {x0 : List File} {r : (List File)} {v0 : Val} (hA : Gd F w) (h0 : SlF File.t F v0 x0) (H : cellarerkeep_TwinFiles x0 = some r) : Ret Try.prog K 5 [v0] w fun v w' => ∃ (F' : Frz) (q0 : Val), v = q0 ∧ St [] w F F' [.row File.t q0 (r)] w' := by
 refine Ret_of (args := [v0]) Go.Proofs.Try.func5 rfl (by decide) rfl ?_
 change C _ _ _ _ _ [(0, v0)] _
 have hS := St.start hA
 dsimp only [cellarerkeep_TwinFiles] at H
 refine C_seq ?_
 refine C_region rfl ?_
 refine W_c rfl rfl rfl rfl (fun _ => rfl) ?_
 refine W_nil ?_
 refine N_code ?_
 refine C_seq ?_
 refine C_region rfl ?_
 refine W_c rfl rfl rfl rfl (fun _ => rfl) ?_
 refine W_nil ?_
 refine N_code ?_
 refine C_seq_join (fun E wq => ∃ l2 : List File, cellarerkeep_TwinFiles.k1 l2 = some r ∧ ∃ (F1 : Frz) (u3 : Val), E = [(3, u3)] ∧ F.le F1 ∧ St [] w F F1 [.row File.t u3 l2] wq) ?_ ?_
 ·
  refine C_seq ?_
  refine C_region rfl ?_
  refine W_c rfl rfl rfl rfl (fun _ => rfl) ?_
  refine W_nil ?_
  refine N_code ?_
  refine C_block ?_
  refine C_loopM (fun (s : (List File) × Int) E wq => ∃ (F5 : Frz) (u7 : Val), E = [(0, v0), (3, u7), (4, .i .i64 s.2)] ∧ F.le F5 ∧ St [] w F F5 [.row File.t u7 s.1] wq) H ?_ ?_
  ·
   have hS23 := hS.nilRow File.t
   exact ⟨_, ⟨F, (.sl none 0 (some 0)), rfl, (Frz.le.refl _), hS23⟩, ⟨rfl, rfl, rfl, trivial⟩⟩
  ·
   rintro rec10 ⟨l6, i9⟩ E w5 hI H
   try dsimp only at hI
   obtain ⟨F5, u7, rfl, le5, hS5⟩ := hI
   dsimp only [cellarerkeep_TwinFiles.l2] at H
   refine C_seq ?_
   refine C_seq ?_
   refine C_region rfl ?_
   refine W_c rfl rfl rfl rfl (fun _ => rfl) ?_
   refine W_c rfl rfl rfl rfl (fun _ => rfl) ?_
   refine W_r rfl rfl rfl (O_len Go.Proofs.Try.underlying22 rfl h0.ln) ?_
   refine W_r rfl rfl rfl (O_bin rfl rfl bI_lss) ?_
   refine W_nil ?_
   refine N_code ?_
   refine C_cond rfl (fun hc11 => ?_) (fun hc11 => ?_)
   ·
    rw [if_t hc11] at H
    refine C_skip ?_
    refine N_code ?_
    refine C_seq ?_
    refine C_block ?_
    obtain ⟨x12, hx12, H⟩ := bd_some H
    obtain ⟨r14, hr14, H⟩ := bd_some H
    obtain ⟨l16, hl16, H⟩ := bd_some H
    refine C_regionD (G := F5) [0, 1, 2, 3, 4, 5, 6, 7, 8, 9, 10, 11, 12, 13, 14, 15] rfl Ty.mixed (by kernel_rfl) hS5.agree ?_
    refine W_c rfl rfl rfl rfl (fun _ => rfl) ?_
    refine W_c rfl rfl rfl rfl (fun _ => rfl) ?_
    refine W_c rfl rfl rfl rfl (fun _ => rfl) ?_
    obtain ⟨hp18, hy18⟩ := ix_some hx12
    obtain ⟨cs18, hr18, he18⟩ := (h0.mono le5).el hy18
    obtain ⟨ue13_0, rfl, hue13_0⟩ := hr18
    replace he18 : Elf _ _ 2 _ _ := he18
    have hi18 := he18.ixd
    refine W_r rfl rfl rfl (O_ix Go.Proofs.Try.underlying22 Ty.size30 rfl rfl hi18 hp18 rfl) ?_
    refine W_r rfl rfl rfl (O_fld 0 Ty.field30_0 rfl hi18) ?_
    refine W_r rfl rfl rfl (O_ld1 0 Ty.cell9 rfl he18 (by omega) rfl) ?_
    refine W_c rfl rfl rfl rfl (fun _ => rfl) ?_
    refine W_c rfl rfl rfl rfl (fun _ => rfl) ?_
    refine W_r rfl rfl rfl (O_ix Go.Proofs.Try.underlying22 Ty.size30 rfl rfl hi18 hp18 rfl) ?_
    refine W_r rfl rfl rfl (O_fld 1 Ty.field30_1 rfl hi18) ?_
    refine W_q (by kernel_rfl) rfl rfl rfl (O_ld1 1 Ty.cell28 rfl (he18.mono hS5.agree) (by omega) rfl) ?_
    refine W_call (f := 16) (args := [ue13_0]) rfl rfl rfl rfl (cellarerkeep_Twin_ok hS5.good hue13_0 hr14) ?_
    rintro ur14_0 w19 ⟨Fr14, _, rfl, hT19⟩
    have hS19 := hS5.call hT19
    have ler14 := hT19.ext
    refine Nxt.frz ler14 hS19.agree ?_
    have hcl20 := (hS19.rowLn (k := 0) rfl).cells
    refine W_r rfl rfl rfl (O_build (vs := [(0, .s x12.path), (1, ur14_0)]) (v := .agg (File.cells (File.mk x12.path r14) ur14_0)) Ty.bld30 rfl (by simp only [fillV, hcl20]; rfl)) ?_
    obtain ⟨F21, le21, hf21, hS21⟩ := hS19.freezeR 0 [1] rfl (by decide) (by decide)
    refine W_rg le21 hS21.agree ?_
    refine W_x rfl rfl rfl (E_bs (t := File.t) (vs := [.agg (File.cells (File.mk x12.path r14) ur14_0)]) (xs := [(File.mk x12.path r14)]) Go.Proofs.Try.underlying22 Ty.row30 rfl ⟨⟨ur14_0, rfl, hf21⟩, trivial⟩ rfl rfl hS21) ?_
    rintro u15 w15 hS15
    refine Nxt.frz (Frz.le.refl _) hS15.agree ?_
    refine W_x rfl rfl rfl (E_app (t := File.t) 1 Go.Proofs.Try.underlying22 Ty.row30 Ty.zk22 rfl rfl hS15 rfl (hS15.rowSrc (k := 0) rfl) hl16) ?_
    rintro v17 w17 hS17
    refine Nxt.frz (Frz.le.refl _) hS17.agree ?_
    refine W_c rfl rfl rfl rfl (fun _ => rfl) ?_
    refine W_nil ?_
    refine N_block ?_
    refine N_code ?_
    refine C_region rfl ?_
    refine W_c rfl rfl rfl rfl (fun _ => rfl) ?_
    refine W_c rfl rfl rfl rfl (fun _ => rfl) ?_
    refine W_c rfl rfl rfl rfl (fun _ => rfl) ?_
    refine W_nil ?_
    exact N_againM (l16, wr (i9 + 1)) _ H ⟨F21, v17, rfl, ((le5.trans ler14).trans le21), hS17.pick [1] (by decide)⟩ ⟨rfl, rfl, rfl, trivial⟩
   ·
    rw [if_f hc11] at H
    refine C_exit _ rfl ?_
    exact N_join _ ⟨l6, H, ⟨F5, u7, rfl, le5, hS5⟩⟩ ⟨rfl, trivial⟩
 ·
  rintro E w1 ⟨l2, H, F1, u3, rfl, le1, hS1⟩
  dsimp only [cellarerkeep_TwinFiles.k1] at H
  refine C_seq ?_
  refine C_region rfl ?_
  refine W_c rfl rfl rfl rfl (fun _ => rfl) ?_
  refine W_c rfl rfl rfl rfl (fun _ => rfl) ?_
  refine W_nil ?_
  refine N_code ?_
  obtain rfl := Option.some.inj H
  refine C_ret rfl rfl ?_
  exact ⟨F1, u3, rfl, hS1⟩

def cellarerkeep_Files.k1 : Option Bool :=
  some true


def cellarerkeep_Files.l2 (x0 : List File) (x1 : List File) (rec5 : Int → Option Bool) : Int → Option Bool
  | i4 =>
    if decide (i4 < (x0.length : Int)) then
      bd (ix x0 i4) fun x7 =>
      bd (ix x1 i4) fun x9 =>
      bd (only (!(!(x7.path == x9.path))) (ix x0 i4) (File.mk [] [])) fun x11 =>
      bd (only (!(!(x7.path == x9.path))) (ix x1 i4) (File.mk [] [])) fun x13 =>
      bd (only (!(!(x7.path == x9.path))) (cellarerkeep_Bytes x11.data x13.data) false) fun r15 =>
      if ((!(x7.path == x9.path)) || (!r15)) then
        some false
      else
        rec5 (wr (i4 + 1))
    else
      cellarerkeep_Files.k1

def cellarerkeep_Files (x0 : List File) (x1 : List File) : Option Bool :=
  if decide ((x0.length : Int) ≠ (x1.length : Int)) then
    some false
  else
    loop (cellarerkeep_Files.l2 x0 x1) 0

set_option maxRecDepth 100000 in
theorem cellarerkeep_Files_ok {K : Tb} {F : Frz} {w : Hp} {x0 : List File} {x1 : List File} {r : Bool} {v0 : Val} {v1 : Val} (hA : Gd F w) (h0 : SlF File.t F v0 x0) (h1 : SlF File.t F v1 x1) (H : cellarerkeep_Files x0 x1 = some r) : Ret Try.prog K 10 [v0, v1] w fun v w' => ∃ (F' : Frz), v = .b r ∧ St [] w F F' [] w' := by
 refine Ret_of (args := [v0, v1]) Go.Proofs.Try.func10 rfl (by decide) rfl ?_
 change C _ _ _ _ _ [(0, v0), (1, v1)] _
 have hS := St.start hA
 dsimp only [cellarerkeep_Files] at H
 refine C_seq ?_
 refine C_region rfl ?_
 refine W_c rfl rfl rfl rfl (fun _ => rfl) ?_
 refine W_nil ?_
 refine N_code ?_
 refine C_seq ?_
 refine C_seq ?_
 refine C_region rfl ?_
 refine W_c rfl rfl rfl rfl (fun _ => rfl) ?_
 refine W_r rfl rfl rfl (O_len Go.Proofs.Try.underlying22 rfl h0.ln) ?_
 refine W_c rfl rfl rfl rfl (fun _ => rfl) ?_
 refine W_r rfl rfl rfl (O_len Go.Proofs.Try.underlying22 rfl h1.ln) ?_
 refine W_r rfl rfl rfl (O_bin rfl rfl bI_neq) ?_
 refine W_nil ?_
 refine N_code ?_
 refine C_cond rfl (fun hc1 => ?_) (fun hc1 => ?_)
 ·
  rw [if_t hc1] at H
  refine C_seq ?_
  refine C_region rfl ?_
  refine W_c rfl rfl rfl rfl (fun _ => rfl) ?_
  refine W_nil ?_
  refine N_code ?_
  obtain rfl := Option.some.inj H
  refine C_ret rfl rfl ?_
  exact ⟨F, rfl, hS⟩
 ·
  rw [if_f hc1] at H
  refine C_skip ?_
  refine N_code ?_
  refine C_seq_join (fun E wq => cellarerkeep_Files.k1 = some r ∧ ∃ (F2 : Frz), E = [] ∧ F.le F2 ∧ St [] w F F2 [] wq) ?_ ?_
  ·
   refine C_seq ?_
   refine C_region rfl ?_
   refine W_c rfl rfl rfl rfl (fun _ => rfl) ?_
   refine W_nil ?_
   refine N_code ?_
   refine C_block ?_
   refine C_loopM (fun (s : Int) E wq => ∃ (F3 : Frz), E = [(0, v0), (1, v1), (5, .i .i64 s)] ∧ F.le F3 ∧ St [] w F F3 [] wq) H ?_ ?_
   ·
    exact ⟨_, ⟨F, rfl, (Frz.le.refl _), hS⟩, ⟨rfl, rfl, rfl, trivial⟩⟩
   ·
    rintro rec5 i4 E w3 hI H
    try dsimp only at hI
    obtain ⟨F3, rfl, le3, hS3⟩ := hI
    dsimp only [cellarerkeep_Files.l2] at H
    refine C_seq ?_
    refine C_seq ?_
    refine C_region rfl ?_
    refine W_c rfl rfl rfl rfl (fun _ => rfl) ?_
    refine W_c rfl rfl rfl rfl (fun _ => rfl) ?_
    refine W_r rfl rfl rfl (O_len Go.Proofs.Try.underlying22 rfl h0.ln) ?_
    refine W_r rfl rfl rfl (O_bin rfl rfl bI_lss) ?_
    refine W_nil ?_
    refine N_code ?_
    refine C_cond rfl (fun hc6 => ?_) (fun hc6 => ?_)
    ·
     rw [if_t hc6] at H
     refine C_skip ?_
     refine N_code ?_
     refine C_seq ?_
     refine C_block ?_
     refine C_seq ?_
     obtain ⟨x7, hx7, H⟩ := bd_some H
     obtain ⟨x9, hx9, H⟩ := bd_some H
     obtain ⟨x11, hx11, H⟩ := bd_some H
     obtain ⟨x13, hx13, H⟩ := bd_some H
     obtain ⟨r15, hr15, H⟩ := bd_some H
     refine C_join (fun E wq => E = [(0, v0), (1, v1), (5, .i .i64 i4), (41, .b ((!(x7.path == x9.path)) || (!r15)))] ∧ ∃ F16 : Frz, F3.le F16 ∧ St [] w F F16 [] wq) ?_ ?_
     ·
      rcases Bool.eq_false_or_eq_true (!(x7.path == x9.path)) with hb17 | hb17
      ·
       refine C_regionD (G := F3) [0, 1, 2, 3, 4, 5, 6, 7, 8, 9, 10, 11, 12, 13, 14, 15, 16, 17, 18, 19, 20, 21, 22, 23, 24] rfl Ty.mixed (by kernel_rfl) hS3.agree ?_
       refine W_c rfl rfl rfl rfl (fun _ => rfl) ?_
       refine W_c rfl rfl rfl rfl (fun _ => rfl) ?_
       obtain ⟨hp18, hy18⟩ := ix_some hx7
       obtain ⟨cs18, hr18, he18⟩ := (h0.mono le3).el hy18
       obtain ⟨ue8_0, rfl, hue8_0⟩ := hr18
       replace he18 : Elf _ _ 2 _ _ := he18
       have hi18 := he18.ixd
       refine W_r rfl rfl rfl (O_ix Go.Proofs.Try.underlying22 Ty.size30 rfl rfl hi18 hp18 rfl) ?_
       refine W_r rfl rfl rfl (O_fld 0 Ty.field30_0 rfl hi18) ?_
       refine W_q (by kernel_rfl) rfl rfl rfl (O_ld1 0 Ty.cell9 rfl (he18.mono hS3.agree) (by omega) rfl) ?_
       refine W_c rfl rfl rfl rfl (fun _ => rfl) ?_
       refine W_c rfl rfl rfl rfl (fun _ => rfl) ?_
       obtain ⟨hp19, hy19⟩ := ix_some hx9
       obtain ⟨cs19, hr19, he19⟩ := (h1.mono le3).el hy19
       obtain ⟨ue10_0, rfl, hue10_0⟩ := hr19
       replace he19 : Elf _ _ 2 _ _ := he19
       have hi19 := he19.ixd
       refine W_r rfl rfl rfl (O_ix Go.Proofs.Try.underlying22 Ty.size30 rfl rfl hi19 hp19 rfl) ?_
       refine W_r rfl rfl rfl (O_fld 0 Ty.field30_0 rfl hi19) ?_
       refine W_q (by kernel_rfl) rfl rfl rfl (O_ld1 0 Ty.cell9 rfl (he19.mono hS3.agree) (by omega) rfl) ?_
       refine W_r rfl rfl rfl (O_bin rfl rfl bS_neq) ?_
       refine W_c rfl rfl rfl rfl (fun _ => rfl) ?_
       refine W_eqv (t := 28) (v' := .b true) rfl (congrArg Val.b hb17) ?_
       refine W_no rfl rfl rfl ?_
       refine W_no rfl rfl rfl ?_
       refine W_no rfl rfl rfl ?_
       refine W_no rfl rfl rfl ?_
       refine W_no rfl rfl rfl ?_
       refine W_no rfl rfl rfl ?_
       refine W_no rfl rfl rfl ?_
       refine W_no rfl rfl rfl ?_
       refine W_no rfl rfl rfl ?_
       refine W_no rfl rfl rfl ?_
       refine W_no rfl rfl rfl ?_
       refine W_no rfl rfl rfl ?_
       refine W_c rfl rfl rfl rfl (fun _ => rfl) ?_
       refine W_nil ?_
       exact N_join _ ⟨rfl, F3, (Frz.le.refl _), hS3⟩ ⟨rfl, rfl, rfl, (look_bool rfl (by first | rfl | (rw [hb17]; first | done | rfl) | simp [hb17])), trivial⟩
      ·
       refine C_regionD (G := F3) [0, 1, 2, 3, 4, 5, 6, 7, 8, 9, 10, 11, 12, 13, 14, 15, 16, 17, 18, 19, 20, 21, 22, 23, 24] rfl Ty.mixed (by kernel_rfl) hS3.agree ?_
       refine W_c rfl rfl rfl rfl (fun _ => rfl) ?_
       refine W_c rfl rfl rfl rfl (fun _ => rfl) ?_
       obtain ⟨hp20, hy20⟩ := ix_some hx7
       obtain ⟨cs20, hr20, he20⟩ := (h0.mono le3).el hy20
       obtain ⟨ue8_0, rfl, hue8_0⟩ := hr20
       replace he20 : Elf _ _ 2 _ _ := he20
       have hi20 := he20.ixd
       refine W_r rfl rfl rfl (O_ix Go.Proofs.Try.underlying22 Ty.size30 rfl rfl hi20 hp20 rfl) ?_
       refine W_r rfl rfl rfl (O_fld 0 Ty.field30_0 rfl hi20) ?_
       refine W_q (by kernel_rfl) rfl rfl rfl (O_ld1 0 Ty.cell9 rfl (he20.mono hS3.agree) (by omega) rfl) ?_
       refine W_c rfl rfl rfl rfl (fun _ => rfl) ?_
       refine W_c rfl rfl rfl rfl (fun _ => rfl) ?_
       obtain ⟨hp21, hy21⟩ := ix_some hx9
       obtain ⟨cs21, hr21, he21⟩ := (h1.mono le3).el hy21
       obtain ⟨ue10_0, rfl, hue10_0⟩ := hr21
       replace he21 : Elf _ _ 2 _ _ := he21
       have hi21 := he21.ixd
       refine W_r rfl rfl rfl (O_ix Go.Proofs.Try.underlying22 Ty.size30 rfl rfl hi21 hp21 rfl) ?_
       refine W_r rfl rfl rfl (O_fld 0 Ty.field30_0 rfl hi21) ?_
       refine W_q (by kernel_rfl) rfl rfl rfl (O_ld1 0 Ty.cell9 rfl (he21.mono hS3.agree) (by omega) rfl) ?_
       refine W_r rfl rfl rfl (O_bin rfl rfl bS_neq) ?_
       refine W_c rfl rfl rfl rfl (fun _ => rfl) ?_
       refine W_eqv (t := 28) (v' := .b false) rfl (congrArg Val.b hb17) ?_
       refine W_c rfl rfl rfl rfl (fun _ => rfl) ?_
       refine W_c rfl rfl rfl rfl (fun _ => rfl) ?_
       have hy22 := hx11
       rw [only_t (by first | rfl | (rw [hb17]; first | done | rfl) | simp [hb17])] at hy22
       obtain ⟨hp23, hy23⟩ := ix_some hy22
       obtain ⟨cs23, hr23, he23⟩ := (h0.mono le3).el hy23
       obtain ⟨ue12_0, rfl, hue12_0⟩ := hr23
       replace he23 : Elf _ _ 2 _ _ := he23
       have hi23 := he23.ixd
       refine W_r rfl rfl rfl (O_ix Go.Proofs.Try.underlying22 Ty.size30 rfl rfl hi23 hp23 rfl) ?_
       refine W_r rfl rfl rfl (O_fld 1 Ty.field30_1 rfl hi23) ?_
       refine W_q (by kernel_rfl) rfl rfl rfl (O_ld1 1 Ty.cell28 rfl (he23.mono hS3.agree) (by omega) rfl) ?_
       refine W_c rfl rfl rfl rfl (fun _ => rfl) ?_
       refine W_c rfl rfl rfl rfl (fun _ => rfl) ?_
       have hy24 := hx13
       rw [only_t (by first | rfl | (rw [hb17]; first | done | rfl) | simp [hb17])] at hy24
       obtain ⟨hp25, hy25⟩ := ix_some hy24
       obtain ⟨cs25, hr25, he25⟩ := (h1.mono le3).el hy25
       obtain ⟨ue14_0, rfl, hue14_0⟩ := hr25
       replace he25 : Elf _ _ 2 _ _ := he25
       have hi25 := he25.ixd
       refine W_r rfl rfl rfl (O_ix Go.Proofs.Try.underlying22 Ty.size30 rfl rfl hi25 hp25 rfl) ?_
       refine W_r rfl rfl rfl (O_fld 1 Ty.field30_1 rfl hi25) ?_
       refine W_q (by kernel_rfl) rfl rfl rfl (O_ld1 1 Ty.cell28 rfl (he25.mono hS3.agree) (by omega) rfl) ?_
       have hy26 := hr15
       rw [only_t (by first | rfl | (rw [hb17]; first | done | rfl) | simp [hb17])] at hy26
       refine W_call (f := 25) (args := [ue12_0, ue14_0]) rfl rfl rfl rfl (cellarerkeep_Bytes_ok hS3.good hue12_0 hue14_0 hy26) ?_
       rintro v27 w27 ⟨Fr15, rfl, hT27⟩
       have hS27 := hS3.lent hT27
       refine Nxt.frz (Frz.le.refl _) hS27.agree ?_
       refine W_c rfl rfl rfl rfl (fun _ => rfl) ?_
       refine W_c rfl rfl rfl rfl (fun _ => rfl) ?_
       refine W_nil ?_
       exact N_join _ ⟨rfl, F3, (Frz.le.refl _), hS27⟩ ⟨rfl, rfl, rfl, (look_bool rfl (by first | rfl | (rw [hb17]; first | done | rfl) | simp [hb17])), trivial⟩
     rintro E w16 ⟨rfl, F16, le16, hS16⟩
     refine N_code ?_
     refine C_cond rfl (fun hc28 => ?_) (fun hc28 => ?_)
     ·
      rw [if_t hc28] at H
      refine C_seq ?_
      refine C_region rfl ?_
      refine W_c rfl rfl rfl rfl (fun _ => rfl) ?_
      refine W_nil ?_
      refine N_code ?_
      obtain rfl := Option.some.inj H
      refine C_ret rfl rfl ?_
      exact ⟨F16, rfl, hS16⟩
     ·
      rw [if_f hc28] at H
      refine C_skip ?_
      refine N_block ?_
      refine N_code ?_
      refine C_region rfl ?_
      refine W_c rfl rfl rfl rfl (fun _ => rfl) ?_
      refine W_c rfl rfl rfl rfl (fun _ => rfl) ?_
      refine W_c rfl rfl rfl rfl (fun _ => rfl) ?_
      refine W_nil ?_
      exact N_againM (wr (i4 + 1)) _ H ⟨F16, rfl, (le3.trans le16), hS16⟩ ⟨rfl, rfl, rfl, trivial⟩
    ·
     rw [if_f hc6] at H
     refine C_exit _ rfl ?_
     exact N_join _ ⟨H, ⟨F3, rfl, le3, hS3⟩⟩ trivial
  ·
   rintro E w2 ⟨H, F2, rfl, le2, hS2⟩
   dsimp only [cellarerkeep_Files.k1] at H
   refine C_seq ?_
   refine C_region rfl ?_
   refine W_c rfl rfl rfl rfl (fun _ => rfl) ?_
   refine W_nil ?_
   refine N_code ?_
   obtain rfl := Option.some.inj H
   refine C_ret rfl rfl ?_
   exact ⟨F2, rfl, hS2⟩

def tree_Size.k1 (i2 : Int) : Option Int :=
  some i2


def tree_Size.l2 (x0 : List File) (rec6 : (Int × Int) → Option Int) : (Int × Int) → Option Int
  | (i4, i5) =>
    if decide (i5 < (x0.length : Int)) then
      bd (ix x0 i5) fun x8 =>
      rec6 (wr (i4 + (x8.data.length : Int)), wr (i5 + 1))
    else
      tree_Size.k1 i4

def tree_Size (x0 : List File) : Option Int :=
  loop (tree_Size.l2 x0) (0, 0)

set_option maxRecDepth 100000 in
theorem tree_Size_ok {K : Tb} {F : Frz} {w : Hp} {x0 : List File} {r : Int} {v0 : Val} (hA : Gd F w) (h0 : SlF File.t F v0 x0) (H : tree_Size x0 = some r) : Ret Try.prog K 11 [v0] w fun v w' => ∃ (F' : Frz), v = .i .i64 r ∧ St [] w F F' [] w' := by
 refine Ret_of (args := [v0]) Go.Proofs.Try.func11 rfl (by decide) rfl ?_
 change C _ _ _ _ _ [(0, v0)] _
 have hS := St.start hA
 dsimp only [tree_Size] at H
 refine C_seq ?_
 refine C_region rfl ?_
 refine W_c rfl rfl rfl rfl (fun _ => rfl) ?_
 refine W_nil ?_
 refine N_code ?_
 refine C_seq ?_
 refine C_region rfl ?_
 refine W_c rfl rfl rfl rfl (fun _ => rfl) ?_
 refine W_nil ?_
 refine N_code ?_
 refine C_seq_join (fun E wq => ∃ i2 : Int, tree_Size.k1 i2 = some r ∧ ∃ (F1 : Frz), E = [(3, .i .i64 i2)] ∧ F.le F1 ∧ St [] w F F1 [] wq) ?_ ?_
 ·
  refine C_seq ?_
  refine C_region rfl ?_
  refine W_c rfl rfl rfl rfl (fun _ => rfl) ?_
  refine W_r rfl rfl rfl (O_len Go.Proofs.Try.underlying22 rfl h0.ln) ?_
  refine W_c rfl rfl rfl rfl (fun _ => rfl) ?_
  refine W_nil ?_
  refine N_code ?_
  refine C_block ?_
  refine C_loopM (fun (s : Int × Int) E wq => ∃ (F3 : Frz), E = [(3, .i .i64 s.1), (6, v0), (7, .i .i64 (x0.length : Int)), (8, .i .i64 s.2)] ∧ F.le F3 ∧ St [] w F F3 [] wq) H ?_ ?_
  ·
   exact ⟨_, ⟨F, rfl, (Frz.le.refl _), hS⟩, ⟨rfl, rfl, rfl, rfl, trivial⟩⟩
  ·
   rintro rec6 ⟨i4, i5⟩ E w3 hI H
   try dsimp only at hI
   obtain ⟨F3, rfl, le3, hS3⟩ := hI
   dsimp only [tree_Size.l2] at H
   refine C_seq ?_
   refine C_region rfl ?_
   refine W_r rfl rfl rfl (O_bin rfl rfl bI_lss) ?_
   refine W_nil ?_
   refine N_code ?_
   refine C_seq ?_
   refine C_cond rfl (fun hc7 => ?_) (fun hc7 => ?_)
   ·
    rw [if_t hc7] at H
    refine C_skip ?_
    refine N_code ?_
    refine C_seq ?_
    refine C_block ?_
    refine C_seq ?_
    obtain ⟨x8, hx8, H⟩ := bd_some H
    refine C_region rfl ?_
    obtain ⟨hp11, hy11⟩ := ix_some hx8
    obtain ⟨cs11, hr11, he11⟩ := (h0.mono le3).el hy11
    obtain ⟨ue9_0, rfl, hue9_0⟩ := hr11
    replace he11 : Elf _ _ 2 _ _ := he11
    have hi11 := he11.ixd
    refine W_r rfl rfl rfl (O_ix Go.Proofs.Try.underlying22 Ty.size30 rfl rfl hi11 hp11 rfl) ?_
    refine W_r rfl rfl rfl (O_ldg 0 (File.cells x8 ue9_0) Ty.agg30 Ty.size30 rfl (he11.mono hS3.agree) (by omega) rfl (Nat.le_of_ble_eq_true rfl)) ?_
    refine W_x rfl rfl rfl (E_alc (cs := [.s [], .sl none 0 (some 0)]) Ty.zero30 rfl hS3) ?_
    rintro _ w10 ⟨g10, rfl, hS10⟩
    refine Nxt.now ?_
    refine W_xU rfl rfl rfl (E_bst (c := [.s x8.path, ue9_0]) 0 ([.s x8.path, ue9_0]) rfl rfl hS10 rfl rfl Ty.size30 (by simp only [List.all_cons, List.all_nil, List.all_append, hue9_0.ln.one]; rfl) rfl rfl) ?_
    rintro _ w12 hS12
    refine Nxt.now ?_
    refine W_nil ?_
    refine N_code ?_
    refine C_region rfl ?_
    refine W_c rfl rfl rfl rfl (fun _ => rfl) ?_
    refine W_r rfl rfl rfl (O_fldB 1 Ty.field30_1 rfl) ?_
    refine W_r rfl rfl rfl (O_bld1 0 Ty.cell28 rfl hS12 rfl rfl) ?_
    refine W_r rfl rfl rfl (O_len Go.Proofs.Try.underlying28 rfl hue9_0.ln) ?_
    refine W_c rfl rfl rfl rfl (fun _ => rfl) ?_
    refine W_c rfl rfl rfl rfl (fun _ => rfl) ?_
    refine W_nil ?_
    refine N_block ?_
    refine N_code ?_
    refine C_region rfl ?_
    refine W_c rfl rfl rfl rfl (fun _ => rfl) ?_
    refine W_c rfl rfl rfl rfl (fun _ => rfl) ?_
    refine W_nil ?_
    exact N_againM (wr (i4 + (x8.data.length : Int)), wr (i5 + 1)) _ H ⟨F3, rfl, le3, hS12.pick [] (by decide)⟩ ⟨rfl, rfl, rfl, rfl, trivial⟩
   ·
    rw [if_f hc7] at H
    refine C_exit _ rfl ?_
    exact N_join _ ⟨i4, H, ⟨F3, rfl, le3, hS3⟩⟩ ⟨rfl, trivial⟩
 ·
  rintro E w1 ⟨i2, H, F1, rfl, le1, hS1⟩
  dsimp only [tree_Size.k1] at H
  refine C_seq ?_
  refine C_region rfl ?_
  refine W_c rfl rfl rfl rfl (fun _ => rfl) ?_
  refine W_c rfl rfl rfl rfl (fun _ => rfl) ?_
  refine W_nil ?_
  refine N_code ?_
  obtain rfl := Option.some.inj H
  refine C_ret rfl rfl ?_
  exact ⟨F1, rfl, hS1⟩

def tree_Name.k1 : Option Bool :=
  some true


def tree_Name.l2 (x0 : List UInt8) (rec7 : Int → Option Bool) : Int → Option Bool
  | i6 =>
    if decide (i6 < (x0.length : Int)) then
      bd (ix x0 i6) fun x9 =>
      bd (only (!decide ((x9.toNat : Int) < 33)) (ix x0 i6) 0) fun x10 =>
      if (decide ((x9.toNat : Int) < 33) || decide (126 < (x10.toNat : Int))) then
        some false
      else
        rec7 (wr (i6 + 1))
    else
      tree_Name.k1

def tree_Name (x0 : List UInt8) : Option Bool :=
  if (decide ((x0.length : Int) < 1) || decide (20 < (x0.length : Int))) then
    some false
  else
    loop (tree_Name.l2 x0) 0

set_option maxRecDepth 100000 in
theorem tree_Name_ok {K : Tb} {F : Frz} {w : Hp} {x0 : List UInt8} {r : Bool} (hA : Gd F w) (H : tree_Name x0 = some r) : Ret Try.prog K 12 [.s x0] w fun v w' => ∃ (F' : Frz), v = .b r ∧ St [] w F F' [] w' := by
 refine Ret_of (args := [.s x0]) Go.Proofs.Try.func12 rfl (by decide) rfl ?_
 change C _ _ _ _ _ [(0, .s x0)] _
 have hS := St.start hA
 dsimp only [tree_Name] at H
 refine C_seq ?_
 refine C_region rfl ?_
 refine W_c rfl rfl rfl rfl (fun _ => rfl) ?_
 refine W_nil ?_
 refine N_code ?_
 refine C_seq ?_
 refine C_seq ?_
 refine C_join (fun E wq => E = [(0, .s x0), (11, .b (decide ((x0.length : Int) < 1) || decide (20 < (x0.length : Int))))] ∧ ∃ F1 : Frz, F.le F1 ∧ St [] w F F1 [] wq) ?_ ?_
 ·
  rcases Bool.eq_false_or_eq_true (decide ((x0.length : Int) < 1)) with hb2 | hb2
  ·
   refine C_region rfl ?_
   refine W_c rfl rfl rfl rfl (fun _ => rfl) ?_
   refine W_r rfl rfl rfl (O_lenS Go.Proofs.Try.underlying9 rfl) ?_
   refine W_r rfl rfl rfl (O_bin rfl rfl bI_lss) ?_
   refine W_c rfl rfl rfl rfl (fun _ => rfl) ?_
   refine W_eqv (t := 7) (v' := .b true) rfl (congrArg Val.b hb2) ?_
   refine W_no rfl rfl rfl ?_
   refine W_no rfl rfl rfl ?_
   refine W_no rfl rfl rfl ?_
   refine W_c rfl rfl rfl rfl (fun _ => rfl) ?_
   refine W_nil ?_
   exact N_join _ ⟨rfl, F, (Frz.le.refl _), hS⟩ ⟨rfl, (look_bool rfl (by first | rfl | (rw [hb2]; first | done | rfl) | simp [hb2])), trivial⟩
  ·
   refine C_region rfl ?_
   refine W_c rfl rfl rfl rfl (fun _ => rfl) ?_
   refine W_r rfl rfl rfl (O_lenS Go.Proofs.Try.underlying9 rfl) ?_
   refine W_r rfl rfl rfl (O_bin rfl rfl bI_lss) ?_
   refine W_c rfl rfl rfl rfl (fun _ => rfl) ?_
   refine W_eqv (t := 7) (v' := .b false) rfl (congrArg Val.b hb2) ?_
   refine W_c rfl rfl rfl rfl (fun _ => rfl) ?_
   refine W_r rfl rfl rfl (O_lenS Go.Proofs.Try.underlying9 rfl) ?_
   refine W_r rfl rfl rfl (O_bin rfl rfl bI_gtr) ?_
   refine W_c rfl rfl rfl rfl (fun _ => rfl) ?_
   refine W_nil ?_
   exact N_join _ ⟨rfl, F, (Frz.le.refl _), hS⟩ ⟨rfl, (look_bool rfl (by first | rfl | (rw [hb2]; first | done | rfl) | simp [hb2])), trivial⟩
 rintro E w1 ⟨rfl, F1, le1, hS1⟩
 refine N_code ?_
 refine C_cond rfl (fun hc3 => ?_) (fun hc3 => ?_)
 ·
  rw [if_t hc3] at H
  refine C_seq ?_
  refine C_region rfl ?_
  refine W_c rfl rfl rfl rfl (fun _ => rfl) ?_
  refine W_nil ?_
  refine N_code ?_
  obtain rfl := Option.some.inj H
  refine C_ret rfl rfl ?_
  exact ⟨F1, rfl, hS1⟩
 ·
  rw [if_f hc3] at H
  refine C_skip ?_
  refine N_code ?_
  refine C_seq_join (fun E wq => tree_Name.k1 = some r ∧ ∃ (F4 : Frz), E = [] ∧ F1.le F4 ∧ St [] w F F4 [] wq) ?_ ?_
  ·
   refine C_seq ?_
   refine C_region rfl ?_
   refine W_c rfl rfl rfl rfl (fun _ => rfl) ?_
   refine W_r rfl rfl rfl (O_lenS Go.Proofs.Try.underlying9 rfl) ?_
   refine W_c rfl rfl rfl rfl (fun _ => rfl) ?_
   refine W_nil ?_
   refine N_code ?_
   refine C_block ?_
   refine C_loopM (fun (s : Int) E wq => ∃ (F5 : Frz), E = [(0, .s x0), (13, .i .i64 (x0.length : Int)), (14, .i .i64 s)] ∧ F1.le F5 ∧ St [] w F F5 [] wq) H ?_ ?_
   ·
    exact ⟨_, ⟨F1, rfl, (Frz.le.refl _), hS1⟩, ⟨rfl, rfl, rfl, trivial⟩⟩
   ·
    rintro rec7 i6 E w5 hI H
    try dsimp only at hI
    obtain ⟨F5, rfl, le5, hS5⟩ := hI
    dsimp only [tree_Name.l2] at H
    refine C_seq ?_
    refine C_region rfl ?_
    refine W_r rfl rfl rfl (O_bin rfl rfl bI_lss) ?_
    refine W_nil ?_
    refine N_code ?_
    refine C_seq ?_
    refine C_cond rfl (fun hc8 => ?_) (fun hc8 => ?_)
    ·
     rw [if_t hc8] at H
     refine C_skip ?_
     refine N_code ?_
     refine C_seq ?_
     refine C_block ?_
     refine C_seq ?_
     refine C_region rfl ?_
     refine W_c rfl rfl rfl rfl (fun _ => rfl) ?_
     refine W_c rfl rfl rfl rfl (fun _ => rfl) ?_
     refine W_nil ?_
     refine N_code ?_
     refine C_seq ?_
     obtain ⟨x9, hx9, H⟩ := bd_some H
     obtain ⟨x10, hx10, H⟩ := bd_some H
     refine C_join (fun E wq => E = [(0, .s x0), (13, .i .i64 (x0.length : Int)), (14, .i .i64 i6), (26, .b (decide ((x9.toNat : Int) < 33) || decide (126 < (x10.toNat : Int))))] ∧ ∃ F11 : Frz, F5.le F11 ∧ St [] w F F11 [] wq) ?_ ?_
     ·
      rcases Bool.eq_false_or_eq_true (decide ((x9.toNat : Int) < 33)) with hb12 | hb12
      ·
       refine C_region rfl ?_
       refine W_c rfl rfl rfl rfl (fun _ => rfl) ?_
       refine W_c rfl rfl rfl rfl (fun _ => rfl) ?_
       obtain ⟨hp13, hy13⟩ := ix_some hx9
       refine W_r rfl rfl rfl (O_ixS Go.Proofs.Try.underlying9 rfl rfl hp13 hy13) ?_
       refine W_r rfl rfl rfl (O_bin rfl rfl bI_lss) ?_
       refine W_c rfl rfl rfl rfl (fun _ => rfl) ?_
       refine W_eqv (t := 21) (v' := .b true) rfl (congrArg Val.b hb12) ?_
       refine W_no rfl rfl rfl ?_
       refine W_no rfl rfl rfl ?_
       refine W_no rfl rfl rfl ?_
       refine W_no rfl rfl rfl ?_
       refine W_c rfl rfl rfl rfl (fun _ => rfl) ?_
       refine W_nil ?_
       exact N_join _ ⟨rfl, F5, (Frz.le.refl _), hS5⟩ ⟨rfl, rfl, rfl, (look_bool rfl (by first | rfl | (rw [hb12]; first | done | rfl) | simp [hb12])), trivial⟩
      ·
       refine C_region rfl ?_
       refine W_c rfl rfl rfl rfl (fun _ => rfl) ?_
       refine W_c rfl rfl rfl rfl (fun _ => rfl) ?_
       obtain ⟨hp14, hy14⟩ := ix_some hx9
       refine W_r rfl rfl rfl (O_ixS Go.Proofs.Try.underlying9 rfl rfl hp14 hy14) ?_
       refine W_r rfl rfl rfl (O_bin rfl rfl bI_lss) ?_
       refine W_c rfl rfl rfl rfl (fun _ => rfl) ?_
       refine W_eqv (t := 21) (v' := .b false) rfl (congrArg Val.b hb12) ?_
       refine W_c rfl rfl rfl rfl (fun _ => rfl) ?_
       refine W_c rfl rfl rfl rfl (fun _ => rfl) ?_
       have hy16 := hx10
       rw [only_t (by first | rfl | (rw [hb12]; first | done | rfl) | simp [hb12])] at hy16
       obtain ⟨hp15, hy15⟩ := ix_some hy16
       refine W_r rfl rfl rfl (O_ixS Go.Proofs.Try.underlying9 rfl rfl hp15 hy15) ?_
       refine W_r rfl rfl rfl (O_bin rfl rfl bI_gtr) ?_
       refine W_c rfl rfl rfl rfl (fun _ => rfl) ?_
       refine W_nil ?_
       exact N_join _ ⟨rfl, F5, (Frz.le.refl _), hS5⟩ ⟨rfl, rfl, rfl, (look_bool rfl (by first | rfl | (rw [hb12]; first | done | rfl) | simp [hb12])), trivial⟩
     rintro E w11 ⟨rfl, F11, le11, hS11⟩
     refine N_code ?_
     refine C_cond rfl (fun hc17 => ?_) (fun hc17 => ?_)
     ·
      rw [if_t hc17] at H
      refine C_seq ?_
      refine C_region rfl ?_
      refine W_c rfl rfl rfl rfl (fun _ => rfl) ?_
      refine W_nil ?_
      refine N_code ?_
      obtain rfl := Option.some.inj H
      refine C_ret rfl rfl ?_
      exact ⟨F11, rfl, hS11⟩
     ·
      rw [if_f hc17] at H
      refine C_skip ?_
      refine N_block ?_
      refine N_code ?_
      refine C_region rfl ?_
      refine W_c rfl rfl rfl rfl (fun _ => rfl) ?_
      refine W_c rfl rfl rfl rfl (fun _ => rfl) ?_
      refine W_nil ?_
      exact N_againM (wr (i6 + 1)) _ H ⟨F11, rfl, (le5.trans le11), hS11⟩ ⟨rfl, rfl, rfl, trivial⟩
    ·
     rw [if_f hc8] at H
     refine C_exit _ rfl ?_
     exact N_join _ ⟨H, ⟨F5, rfl, le5, hS5⟩⟩ trivial
  ·
   rintro E w4 ⟨H, F4, rfl, le4, hS4⟩
   dsimp only [tree_Name.k1] at H
   refine C_seq ?_
   refine C_region rfl ?_
   refine W_c rfl rfl rfl rfl (fun _ => rfl) ?_
   refine W_nil ?_
   refine N_code ?_
   obtain rfl := Option.some.inj H
   refine C_ret rfl rfl ?_
   exact ⟨F4, rfl, hS4⟩

def cellarerref01_Name.k1 (x0 : List UInt8) : Option Bool :=
  some (decide (1 ≤ (x0.length : Int)) && decide ((x0.length : Int) ≤ 20))


def cellarerref01_Name.l2 (x0 : List UInt8) (rec6 : Int → Option Bool) : Int → Option Bool
  | i5 =>
    if decide (i5 < (x0.length : Int)) then
      bd (ix x0 i5) fun x8 =>
      bd (only (!decide ((x8.toNat : Int) < 33)) (ix x0 i5) 0) fun x9 =>
      if (decide ((x8.toNat : Int) < 33) || decide (126 < (x9.toNat : Int))) then
        some false
      else
        rec6 (wr (i5 + 1))
    else
      cellarerref01_Name.k1 x0

def cellarerref01_Name (x0 : List UInt8) : Option Bool :=
  loop (cellarerref01_Name.l2 x0) 0

set_option maxRecDepth 100000 in
theorem cellarerref01_Name_ok {K : Tb} {F : Frz} {w : Hp} {x0 : List UInt8} {r : Bool} (hA : Gd F w) (H : cellarerref01_Name x0 = some r) : Ret Try.prog K 13 [.s x0] w fun v w' => ∃ (F' : Frz), v = .b r ∧ St [] w F F' [] w' := by
 refine Ret_of (args := [.s x0]) Go.Proofs.Try.func13 rfl (by decide) rfl ?_
 change C _ _ _ _ _ [(0, .s x0)] _
 have hS := St.start hA
 dsimp only [cellarerref01_Name] at H
 refine C_seq ?_
 refine C_region rfl ?_
 refine W_c rfl rfl rfl rfl (fun _ => rfl) ?_
 refine W_nil ?_
 refine N_code ?_
 refine C_seq_join (fun E wq => cellarerref01_Name.k1 x0 = some r ∧ ∃ (F1 : Frz), E = [(0, .s x0)] ∧ F.le F1 ∧ St [] w F F1 [] wq) ?_ ?_
 ·
  refine C_seq ?_
  refine C_region rfl ?_
  refine W_c rfl rfl rfl rfl (fun _ => rfl) ?_
  refine W_nil ?_
  refine N_code ?_
  refine C_block ?_
  refine C_loopM (fun (s : Int) E wq => ∃ (F4 : Frz), E = [(0, .s x0), (3, .i .i64 s)] ∧ F.le F4 ∧ St [] w F F4 [] wq) H ?_ ?_
  ·
   exact ⟨_, ⟨F, rfl, (Frz.le.refl _), hS⟩, ⟨rfl, rfl, trivial⟩⟩
  ·
   rintro rec6 i5 E w4 hI H
   try dsimp only at hI
   obtain ⟨F4, rfl, le4, hS4⟩ := hI
   dsimp only [cellarerref01_Name.l2] at H
   refine C_seq ?_
   refine C_seq ?_
   refine C_region rfl ?_
   refine W_c rfl rfl rfl rfl (fun _ => rfl) ?_
   refine W_c rfl rfl rfl rfl (fun _ => rfl) ?_
   refine W_r rfl rfl rfl (O_lenS Go.Proofs.Try.underlying9 rfl) ?_
   refine W_r rfl rfl rfl (O_bin rfl rfl bI_lss) ?_
   refine W_nil ?_
   refine N_code ?_
   refine C_cond rfl (fun hc7 => ?_) (fun hc7 => ?_)
   ·
    rw [if_t hc7] at H
    refine C_skip ?_
    refine N_code ?_
    refine C_seq ?_
    refine C_block ?_
    refine C_seq ?_
    obtain ⟨x8, hx8, H⟩ := bd_some H
    obtain ⟨x9, hx9, H⟩ := bd_some H
    refine C_join (fun E wq => E = [(0, .s x0), (3, .i .i64 i5), (19, .b (decide ((x8.toNat : Int) < 33) || decide (126 < (x9.toNat : Int))))] ∧ ∃ F10 : Frz, F4.le F10 ∧ St [] w F F10 [] wq) ?_ ?_
    ·
     rcases Bool.eq_false_or_eq_true (decide ((x8.toNat : Int) < 33)) with hb11 | hb11
     ·
      refine C_region rfl ?_
      refine W_c rfl rfl rfl rfl (fun _ => rfl) ?_
      refine W_c rfl rfl rfl rfl (fun _ => rfl) ?_
      obtain ⟨hp12, hy12⟩ := ix_some hx8
      refine W_r rfl rfl rfl (O_ixS Go.Proofs.Try.underlying9 rfl rfl hp12 hy12) ?_
      refine W_r rfl rfl rfl (O_bin rfl rfl bI_lss) ?_
      refine W_c rfl rfl rfl rfl (fun _ => rfl) ?_
      refine W_eqv (t := 14) (v' := .b true) rfl (congrArg Val.b hb11) ?_
      refine W_no rfl rfl rfl ?_
      refine W_no rfl rfl rfl ?_
      refine W_no rfl rfl rfl ?_
      refine W_no rfl rfl rfl ?_
      refine W_c rfl rfl rfl rfl (fun _ => rfl) ?_
      refine W_nil ?_
      exact N_join _ ⟨rfl, F4, (Frz.le.refl _), hS4⟩ ⟨rfl, rfl, (look_bool rfl (by first | rfl | (rw [hb11]; first | done | rfl) | simp [hb11])), trivial⟩
     ·
      refine C_region rfl ?_
      refine W_c rfl rfl rfl rfl (fun _ => rfl) ?_
      refine W_c rfl rfl rfl rfl (fun _ => rfl) ?_
      obtain ⟨hp13, hy13⟩ := ix_some hx8
      refine W_r rfl rfl rfl (O_ixS Go.Proofs.Try.underlying9 rfl rfl hp13 hy13) ?_
      refine W_r rfl rfl rfl (O_bin rfl rfl bI_lss) ?_
      refine W_c rfl rfl rfl rfl (fun _ => rfl) ?_
      refine W_eqv (t := 14) (v' := .b false) rfl (congrArg Val.b hb11) ?_
      refine W_c rfl rfl rfl rfl (fun _ => rfl) ?_
      refine W_c rfl rfl rfl rfl (fun _ => rfl) ?_
      have hy15 := hx9
      rw [only_t (by first | rfl | (rw [hb11]; first | done | rfl) | simp [hb11])] at hy15
      obtain ⟨hp14, hy14⟩ := ix_some hy15
      refine W_r rfl rfl rfl (O_ixS Go.Proofs.Try.underlying9 rfl rfl hp14 hy14) ?_
      refine W_r rfl rfl rfl (O_bin rfl rfl bI_gtr) ?_
      refine W_c rfl rfl rfl rfl (fun _ => rfl) ?_
      refine W_nil ?_
      exact N_join _ ⟨rfl, F4, (Frz.le.refl _), hS4⟩ ⟨rfl, rfl, (look_bool rfl (by first | rfl | (rw [hb11]; first | done | rfl) | simp [hb11])), trivial⟩
    rintro E w10 ⟨rfl, F10, le10, hS10⟩
    refine N_code ?_
    refine C_cond rfl (fun hc16 => ?_) (fun hc16 => ?_)
    ·
     rw [if_t hc16] at H
     refine C_seq ?_
     refine C_region rfl ?_
     refine W_c rfl rfl rfl rfl (fun _ => rfl) ?_
     refine W_nil ?_
     refine N_code ?_
     obtain rfl := Option.some.inj H
     refine C_ret rfl rfl ?_
     exact ⟨F10, rfl, hS10⟩
    ·
     rw [if_f hc16] at H
     refine C_skip ?_
     refine N_block ?_
     refine N_code ?_
     refine C_region rfl ?_
     refine W_c rfl rfl rfl rfl (fun _ => rfl) ?_
     refine W_c rfl rfl rfl rfl (fun _ => rfl) ?_
     refine W_c rfl rfl rfl rfl (fun _ => rfl) ?_
     refine W_nil ?_
     exact N_againM (wr (i5 + 1)) _ H ⟨F10, rfl, (le4.trans le10), hS10⟩ ⟨rfl, rfl, trivial⟩
   ·
    rw [if_f hc7] at H
    refine C_exit _ rfl ?_
    exact N_join _ ⟨H, ⟨F4, rfl, le4, hS4⟩⟩ ⟨rfl, trivial⟩
 ·
  rintro E w1 ⟨H, F1, rfl, le1, hS1⟩
  dsimp only [cellarerref01_Name.k1] at H
  refine C_seq ?_
  refine C_join (fun E wq => E = [(2, .b (decide (1 ≤ (x0.length : Int)) && decide ((x0.length : Int) ≤ 20)))] ∧ ∃ F2 : Frz, F1.le F2 ∧ St [] w F F2 [] wq) ?_ ?_
  ·
   rcases Bool.eq_false_or_eq_true (decide (1 ≤ (x0.length : Int))) with hb3 | hb3
   ·
    refine C_region rfl ?_
    refine W_c rfl rfl rfl rfl (fun _ => rfl) ?_
    refine W_r rfl rfl rfl (O_lenS Go.Proofs.Try.underlying9 rfl) ?_
    refine W_r rfl rfl rfl (O_bin rfl rfl bI_geq) ?_
    refine W_c rfl rfl rfl rfl (fun _ => rfl) ?_
    refine W_eqv (t := 23) (v' := .b true) rfl (congrArg Val.b hb3) ?_
    refine W_c rfl rfl rfl rfl (fun _ => rfl) ?_
    refine W_r rfl rfl rfl (O_lenS Go.Proofs.Try.underlying9 rfl) ?_
    refine W_r rfl rfl rfl (O_bin rfl rfl bI_leq) ?_
    refine W_c rfl rfl rfl rfl (fun _ => rfl) ?_
    refine W_c rfl rfl rfl rfl (fun _ => rfl) ?_
    refine W_nil ?_
    exact N_join _ ⟨rfl, F1, (Frz.le.refl _), hS1⟩ ⟨(look_bool rfl (by first | rfl | (rw [hb3]; first | done | rfl) | simp [hb3])), trivial⟩
   ·
    refine C_region rfl ?_
    refine W_c rfl rfl rfl rfl (fun _ => rfl) ?_
    refine W_r rfl rfl rfl (O_lenS Go.Proofs.Try.underlying9 rfl) ?_
    refine W_r rfl rfl rfl (O_bin rfl rfl bI_geq) ?_
    refine W_c rfl rfl rfl rfl (fun _ => rfl) ?_
    refine W_eqv (t := 23) (v' := .b false) rfl (congrArg Val.b hb3) ?_
    refine W_no rfl rfl rfl ?_
    refine W_no rfl rfl rfl ?_
    refine W_no rfl rfl rfl ?_
    refine W_c rfl rfl rfl rfl (fun _ => rfl) ?_
    refine W_c rfl rfl rfl rfl (fun _ => rfl) ?_
    refine W_nil ?_
    exact N_join _ ⟨rfl, F1, (Frz.le.refl _), hS1⟩ ⟨(look_bool rfl (by first | rfl | (rw [hb3]; first | done | rfl) | simp [hb3])), trivial⟩
  rintro E w2 ⟨rfl, F2, le2, hS2⟩
  refine N_code ?_
  obtain rfl := Option.some.inj H
  refine C_ret rfl rfl ?_
  exact ⟨F2, rfl, hS2⟩

def tree_long_1 (x0 : File) : Option Bool :=
  some (decide (200 < (x0.data.length : Int)))

set_option maxRecDepth 100000 in
theorem tree_long_1_ok {K : Tb} {F : Frz} {w : Hp} {x0 : File} {r : Bool} {v0_0 : Val} (hA : Gd F w) (h0_0 : SlF tB F v0_0 x0.data) (H : tree_long_1 x0 = some r) : Ret Try.prog K 27 [.agg (File.cells x0 v0_0)] w fun v w' => ∃ (F' : Frz), v = .b r ∧ St [] w F F' [] w' := by
 refine Ret_of (args := [.agg (File.cells x0 v0_0)]) Go.Proofs.Try.func27 rfl (by decide) rfl ?_
 change C _ _ _ _ _ [(0, .agg (File.cells x0 v0_0))] _
 have hS := St.start hA
 dsimp only [tree_long_1] at H
 refine C_seq ?_
 refine C_region rfl ?_
 refine W_x rfl rfl rfl (E_bx (cs := [.s x0.path, v0_0]) rfl rfl (by simp only [List.all_cons, List.all_nil, List.all_append, h0_0.ln.one]; rfl) hS) ?_
 rintro _ w1 ⟨g1, rfl, hS1⟩
 refine Nxt.now ?_
 refine W_c rfl rfl rfl rfl (fun _ => rfl) ?_
 refine W_nil ?_
 refine N_code ?_
 refine C_seq ?_
 refine C_region rfl ?_
 refine W_r rfl rfl rfl (O_fldB 1 Ty.field30_1 rfl) ?_
 refine W_r rfl rfl rfl (O_bld1 0 Ty.cell28 rfl hS1 rfl rfl) ?_
 refine W_r rfl rfl rfl (O_len Go.Proofs.Try.underlying28 rfl h0_0.ln) ?_
 refine W_r rfl rfl rfl (O_bin rfl rfl bI_gtr) ?_
 refine W_c rfl rfl rfl rfl (fun _ => rfl) ?_
 refine W_nil ?_
 refine N_code ?_
 obtain rfl := Option.some.inj H
 refine C_ret rfl rfl ?_
 exact ⟨F, rfl, hS1.pick [] (by decide)⟩

def slices_IndexFunc_api_File_api_File_tree_long_1.k1 : Option Int :=
  some (-1)


def slices_IndexFunc_api_File_api_File_tree_long_1.l2 (x0 : List File) (rec4 : Int → Option Int) : Int → Option Int
  | i3 =>
    if decide (i3 < (x0.length : Int)) then
      bd (ix x0 i3) fun x6 =>
      bd (tree_long_1 x6) fun r8 =>
      if r8 then
        some i3
      else
        rec4 (wr (i3 + 1))
    else
      slices_IndexFunc_api_File_api_File_tree_long_1.k1

def slices_IndexFunc_api_File_api_File_tree_long_1 (x0 : List File) : Option Int :=
  loop (slices_IndexFunc_api_File_api_File_tree_long_1.l2 x0) 0

set_option maxRecDepth 100000 in
theorem slices_IndexFunc_api_File_api_File_tree_long_1_ok {K : Tb} {F : Frz} {w : Hp} {x0 : List File} {r : Int} {v0 : Val} (hA : Gd F w) (h0 : SlF File.t F v0 x0) (H : slices_IndexFunc_api_File_api_File_tree_long_1 x0 = some r) : Ret Try.prog K 28 [v0, .f 27 []] w fun v w' => ∃ (F' : Frz), v = .i .i64 r ∧ St [] w F F' [] w' := by
 refine Ret_of (args := [v0, .f 27 []]) Go.Proofs.Try.func28 rfl (by decide) rfl ?_
 change C _ _ _ _ _ [(0, v0), (1, .f 27 [])] _
 have hS := St.start hA
 dsimp only [slices_IndexFunc_api_File_api_File_tree_long_1] at H
 refine C_seq ?_
 refine C_region rfl ?_
 refine W_c rfl rfl rfl rfl (fun _ => rfl) ?_
 refine W_nil ?_
 refine N_code ?_
 refine C_seq_join (fun E wq => slices_IndexFunc_api_File_api_File_tree_long_1.k1 = some r ∧ ∃ (F1 : Frz), E = [] ∧ F.le F1 ∧ St [] w F F1 [] wq) ?_ ?_
 ·
  refine C_seq ?_
  refine C_region rfl ?_
  refine W_c rfl rfl rfl rfl (fun _ => rfl) ?_
  refine W_r rfl rfl rfl (O_len Go.Proofs.Try.underlying22 rfl h0.ln) ?_
  refine W_c rfl rfl rfl rfl (fun _ => rfl) ?_
  refine W_nil ?_
  refine N_code ?_
  refine C_block ?_
  refine C_loopM (fun (s : Int) E wq => ∃ (F2 : Frz), E = [(0, v0), (1, .f 27 []), (7, .i .i64 (x0.length : Int)), (8, .i .i64 s)] ∧ F.le F2 ∧ St [] w F F2 [] wq) H ?_ ?_
  ·
   exact ⟨_, ⟨F, rfl, (Frz.le.refl _), hS⟩, ⟨rfl, rfl, rfl, rfl, trivial⟩⟩
  ·
   rintro rec4 i3 E w2 hI H
   try dsimp only at hI
   obtain ⟨F2, rfl, le2, hS2⟩ := hI
   dsimp only [slices_IndexFunc_api_File_api_File_tree_long_1.l2] at H
   refine C_seq ?_
   refine C_region rfl ?_
   refine W_r rfl rfl rfl (O_bin rfl rfl bI_lss) ?_
   refine W_nil ?_
   refine N_code ?_
   refine C_seq ?_
   refine C_cond rfl (fun hc5 => ?_) (fun hc5 => ?_)
   ·
    rw [if_t hc5] at H
    refine C_skip ?_
    refine N_code ?_
    refine C_seq ?_
    refine C_block ?_
    refine C_seq ?_
    refine C_region rfl ?_
    refine W_c rfl rfl rfl rfl (fun _ => rfl) ?_
    refine W_c rfl rfl rfl rfl (fun _ => rfl) ?_
    refine W_nil ?_
    refine N_code ?_
    refine C_seq ?_
    obtain ⟨x6, hx6, H⟩ := bd_some H
    obtain ⟨r8, hr8, H⟩ := bd_some H
    refine C_region rfl ?_
    refine W_c rfl rfl rfl rfl (fun _ => rfl) ?_
    refine W_c rfl rfl rfl rfl (fun _ => rfl) ?_
    refine W_c rfl rfl rfl rfl (fun _ => rfl) ?_
    obtain ⟨hp9, hy9⟩ := ix_some hx6
    obtain ⟨cs9, hr9, he9⟩ := (h0.mono le2).el hy9
    obtain ⟨ue7_0, rfl, hue7_0⟩ := hr9
    replace he9 : Elf _ _ 2 _ _ := he9
    have hi9 := he9.ixd
    refine W_r rfl rfl rfl (O_ix Go.Proofs.Try.underlying22 Ty.size30 rfl rfl hi9 hp9 rfl) ?_
    refine W_r rfl rfl rfl (O_ldg 0 (File.cells x6 ue7_0) Ty.agg30 Ty.size30 rfl (he9.mono hS2.agree) (by omega) rfl (Nat.le_of_ble_eq_true rfl)) ?_
    refine W_call (f := 27) (args := [.agg (File.cells x6 ue7_0)]) rfl rfl rfl rfl (tree_long_1_ok hS2.good hue7_0 hr8) ?_
    rintro v10 w10 ⟨Fr8, rfl, hT10⟩
    have hS10 := hS2.lent hT10
    refine Nxt.now ?_
    refine W_nil ?_
    refine N_code ?_
    refine C_cond rfl (fun hc11 => ?_) (fun hc11 => ?_)
    ·
     rw [if_t hc11] at H
     refine C_seq ?_
     refine C_region rfl ?_
     refine W_c rfl rfl rfl rfl (fun _ => rfl) ?_
     refine W_c rfl rfl rfl rfl (fun _ => rfl) ?_
     refine W_nil ?_
     refine N_code ?_
     obtain rfl := Option.some.inj H
     refine C_ret rfl rfl ?_
     exact ⟨F2, rfl, hS10⟩
    ·
     rw [if_f hc11] at H
     refine C_skip ?_
     refine N_block ?_
     refine N_code ?_
     refine C_region rfl ?_
     refine W_c rfl rfl rfl rfl (fun _ => rfl) ?_
     refine W_c rfl rfl rfl rfl (fun _ => rfl) ?_
     refine W_nil ?_
     exact N_againM (wr (i3 + 1)) _ H ⟨F2, rfl, le2, hS10⟩ ⟨rfl, rfl, rfl, rfl, trivial⟩
   ·
    rw [if_f hc5] at H
    refine C_exit _ rfl ?_
    exact N_join _ ⟨H, ⟨F2, rfl, le2, hS2⟩⟩ trivial
 ·
  rintro E w1 ⟨H, F1, rfl, le1, hS1⟩
  dsimp only [slices_IndexFunc_api_File_api_File_tree_long_1.k1] at H
  refine C_seq ?_
  refine C_region rfl ?_
  refine W_c rfl rfl rfl rfl (fun _ => rfl) ?_
  refine W_nil ?_
  refine N_code ?_
  obtain rfl := Option.some.inj H
  refine C_ret rfl rfl ?_
  exact ⟨F1, rfl, hS1⟩

def slices_ContainsFunc_api_File_api_File_tree_long_1 (x0 : List File) : Option Bool :=
  bd (slices_IndexFunc_api_File_api_File_tree_long_1 x0) fun r1 =>
  some (decide (0 ≤ r1))

set_option maxRecDepth 100000 in
theorem slices_ContainsFunc_api_File_api_File_tree_long_1_ok {K : Tb} {F : Frz} {w : Hp} {x0 : List File} {r : Bool} {v0 : Val} (hA : Gd F w) (h0 : SlF File.t F v0 x0) (H : slices_ContainsFunc_api_File_api_File_tree_long_1 x0 = some r) : Ret Try.prog K 18 [v0, .f 27 []] w fun v w' => ∃ (F' : Frz), v = .b r ∧ St [] w F F' [] w' := by
 refine Ret_of (args := [v0, .f 27 []]) Go.Proofs.Try.func18 rfl (by decide) rfl ?_
 change C _ _ _ _ _ [(0, v0), (1, .f 27 [])] _
 have hS := St.start hA
 dsimp only [slices_ContainsFunc_api_File_api_File_tree_long_1] at H
 refine C_seq ?_
 refine C_region rfl ?_
 refine W_c rfl rfl rfl rfl (fun _ => rfl) ?_
 refine W_nil ?_
 refine N_code ?_
 refine C_seq ?_
 obtain ⟨r1, hr1, H⟩ := bd_some H
 refine C_region rfl ?_
 refine W_c rfl rfl rfl rfl (fun _ => rfl) ?_
 refine W_c rfl rfl rfl rfl (fun _ => rfl) ?_
 refine W_call (f := 28) (args := [v0, .f 27 []]) rfl rfl rfl rfl (slices_IndexFunc_api_File_api_File_tree_long_1_ok hS.good h0 hr1) ?_
 rintro v2 w2 ⟨Fr1, rfl, hT2⟩
 have hS2 := hS.lent hT2
 refine Nxt.now ?_
 refine W_r rfl rfl rfl (O_bin rfl rfl bI_geq) ?_
 refine W_c rfl rfl rfl rfl (fun _ => rfl) ?_
 refine W_nil ?_
 refine N_code ?_
 obtain rfl := Option.some.inj H
 refine C_ret rfl rfl ?_
 exact ⟨F, rfl, hS2⟩

def tree_long (x0 : List File) : Option Bool :=
  bd (only (!decide (6 < (x0.length : Int))) (slices_ContainsFunc_api_File_api_File_tree_long_1 x0) false) fun r1 =>
  some (decide (6 < (x0.length : Int)) || r1)

set_option maxRecDepth 100000 in
theorem tree_long_ok {K : Tb} {F : Frz} {w : Hp} {x0 : List File} {r : Bool} {v0 : Val} (hA : Gd F w) (h0 : SlF File.t F v0 x0) (H : tree_long x0 = some r) : Ret Try.prog K 17 [v0] w fun v w' => ∃ (F' : Frz), v = .b r ∧ St [] w F F' [] w' := by
 refine Ret_of (args := [v0]) Go.Proofs.Try.func17 rfl (by decide) rfl ?_
 change C _ _ _ _ _ [(0, v0)] _
 have hS := St.start hA
 dsimp only [tree_long] at H
 refine C_seq ?_
 refine C_region rfl ?_
 refine W_c rfl rfl rfl rfl (fun _ => rfl) ?_
 refine W_nil ?_
 refine N_code ?_
 refine C_seq ?_
 obtain ⟨r1, hr1, H⟩ := bd_some H
 refine C_join (fun E wq => E = [(2, .b (decide (6 < (x0.length : Int)) || r1))] ∧ ∃ F2 : Frz, F.le F2 ∧ St [] w F F2 [] wq) ?_ ?_
 ·
  rcases Bool.eq_false_or_eq_true (decide (6 < (x0.length : Int))) with hb3 | hb3
  ·
   refine C_region rfl ?_
   refine W_c rfl rfl rfl rfl (fun _ => rfl) ?_
   refine W_r rfl rfl rfl (O_len Go.Proofs.Try.underlying22 rfl h0.ln) ?_
   refine W_r rfl rfl rfl (O_bin rfl rfl bI_gtr) ?_
   refine W_c rfl rfl rfl rfl (fun _ => rfl) ?_
   refine W_eqv (t := 6) (v' := .b true) rfl (congrArg Val.b hb3) ?_
   refine W_no rfl rfl rfl ?_
   refine W_no rfl rfl rfl ?_
   refine W_c rfl rfl rfl rfl (fun _ => rfl) ?_
   refine W_c rfl rfl rfl rfl (fun _ => rfl) ?_
   refine W_nil ?_
   exact N_join _ ⟨rfl, F, (Frz.le.refl _), hS⟩ ⟨(look_bool rfl (by first | rfl | (rw [hb3]; first | done | rfl) | simp [hb3])), trivial⟩
  ·
   refine C_region rfl ?_
   refine W_c rfl rfl rfl rfl (fun _ => rfl) ?_
   refine W_r rfl rfl rfl (O_len Go.Proofs.Try.underlying22 rfl h0.ln) ?_
   refine W_r rfl rfl rfl (O_bin rfl rfl bI_gtr) ?_
   refine W_c rfl rfl rfl rfl (fun _ => rfl) ?_
   refine W_eqv (t := 6) (v' := .b false) rfl (congrArg Val.b hb3) ?_
   refine W_c rfl rfl rfl rfl (fun _ => rfl) ?_
   have hy4 := hr1
   rw [only_t (by first | rfl | (rw [hb3]; first | done | rfl) | simp [hb3])] at hy4
   refine W_call (f := 18) (args := [v0, .f 27 []]) rfl rfl rfl rfl (slices_ContainsFunc_api_File_api_File_tree_long_1_ok hS.good h0 hy4) ?_
   rintro v5 w5 ⟨Fr1, rfl, hT5⟩
   have hS5 := hS.lent hT5
   refine Nxt.now ?_
   refine W_c rfl rfl rfl rfl (fun _ => rfl) ?_
   refine W_c rfl rfl rfl rfl (fun _ => rfl) ?_
   refine W_nil ?_
   exact N_join _ ⟨rfl, F, (Frz.le.refl _), hS5⟩ ⟨(look_bool rfl (by first | rfl | (rw [hb3]; first | done | rfl) | simp [hb3])), trivial⟩
 rintro E w2 ⟨rfl, F2, le2, hS2⟩
 refine N_code ?_
 obtain rfl := Option.some.inj H
 refine C_ret rfl rfl ?_
 exact ⟨F2, rfl, hS2⟩

def cellarerref01_long.k1 : Option Bool :=
  some false


def cellarerref01_long.l2 (x0 : List File) (rec5 : Int → Option Bool) : Int → Option Bool
  | i4 =>
    if decide (i4 < (x0.length : Int)) then
      bd (ix x0 i4) fun x7 =>
      if decide (200 < (x7.data.length : Int)) then
        some true
      else
        rec5 (wr (i4 + 1))
    else
      cellarerref01_long.k1

def cellarerref01_long (x0 : List File) : Option Bool :=
  if decide (6 < (x0.length : Int)) then
    some true
  else
    loop (cellarerref01_long.l2 x0) 0

set_option maxRecDepth 100000 in
theorem cellarerref01_long_ok {K : Tb} {F : Frz} {w : Hp} {x0 : List File} {r : Bool} {v0 : Val} (hA : Gd F w) (h0 : SlF File.t F v0 x0) (H : cellarerref01_long x0 = some r) : Ret Try.prog K 24 [v0] w fun v w' => ∃ (F' : Frz), v = .b r ∧ St [] w F F' [] w' := by
 refine Ret_of (args := [v0]) Go.Proofs.Try.func24 rfl (by decide) rfl ?_
 change C _ _ _ _ _ [(0, v0)] _
 have hS := St.start hA
 dsimp only [cellarerref01_long] at H
 refine C_seq ?_
 refine C_region rfl ?_
 refine W_c rfl rfl rfl rfl (fun _ => rfl) ?_
 refine W_nil ?_
 refine N_code ?_
 refine C_seq ?_
 refine C_seq ?_
 refine C_region rfl ?_
 refine W_c rfl rfl rfl rfl (fun _ => rfl) ?_
 refine W_r rfl rfl rfl (O_len Go.Proofs.Try.underlying22 rfl h0.ln) ?_
 refine W_r rfl rfl rfl (O_bin rfl rfl bI_gtr) ?_
 refine W_nil ?_
 refine N_code ?_
 refine C_cond rfl (fun hc1 => ?_) (fun hc1 => ?_)
 ·
  rw [if_t hc1] at H
  refine C_seq ?_
  refine C_region rfl ?_
  refine W_c rfl rfl rfl rfl (fun _ => rfl) ?_
  refine W_nil ?_
  refine N_code ?_
  obtain rfl := Option.some.inj H
  refine C_ret rfl rfl ?_
  exact ⟨F, rfl, hS⟩
 ·
  rw [if_f hc1] at H
  refine C_skip ?_
  refine N_code ?_
  refine C_seq_join (fun E wq => cellarerref01_long.k1 = some r ∧ ∃ (F2 : Frz), E = [] ∧ F.le F2 ∧ St [] w F F2 [] wq) ?_ ?_
  ·
   refine C_seq ?_
   refine C_region rfl ?_
   refine W_c rfl rfl rfl rfl (fun _ => rfl) ?_
   refine W_nil ?_
   refine N_code ?_
   refine C_block ?_
   refine C_loopM (fun (s : Int) E wq => ∃ (F3 : Frz), E = [(0, v0), (3, .i .i64 s)] ∧ F.le F3 ∧ St [] w F F3 [] wq) H ?_ ?_
   ·
    exact ⟨_, ⟨F, rfl, (Frz.le.refl _), hS⟩, ⟨rfl, rfl, trivial⟩⟩
   ·
    rintro rec5 i4 E w3 hI H
    try dsimp only at hI
    obtain ⟨F3, rfl, le3, hS3⟩ := hI
    dsimp only [cellarerref01_long.l2] at H
    refine C_seq ?_
    refine C_seq ?_
    refine C_region rfl ?_
    refine W_c rfl rfl rfl rfl (fun _ => rfl) ?_
    refine W_c rfl rfl rfl rfl (fun _ => rfl) ?_
    refine W_r rfl rfl rfl (O_len Go.Proofs.Try.underlying22 rfl h0.ln) ?_
    refine W_r rfl rfl rfl (O_bin rfl rfl bI_lss) ?_
    refine W_nil ?_
    refine N_code ?_
    refine C_cond rfl (fun hc6 => ?_) (fun hc6 => ?_)
    ·
     rw [if_t hc6] at H
     refine C_skip ?_
     refine N_code ?_
     refine C_seq ?_
     refine C_block ?_
     refine C_seq ?_
     obtain ⟨x7, hx7, H⟩ := bd_some H
     refine C_region rfl ?_
     refine W_c rfl rfl rfl rfl (fun _ => rfl) ?_
     refine W_c rfl rfl rfl rfl (fun _ => rfl) ?_
     obtain ⟨hp9, hy9⟩ := ix_some hx7
     obtain ⟨cs9, hr9, he9⟩ := (h0.mono le3).el hy9
     obtain ⟨ue8_0, rfl, hue8_0⟩ := hr9
     replace he9 : Elf _ _ 2 _ _ := he9
     have hi9 := he9.ixd
     refine W_r rfl rfl rfl (O_ix Go.Proofs.Try.underlying22 Ty.size30 rfl rfl hi9 hp9 rfl) ?_
     refine W_r rfl rfl rfl (O_fld 1 Ty.field30_1 rfl hi9) ?_
     refine W_r rfl rfl rfl (O_ld1 1 Ty.cell28 rfl (he9.mono hS3.agree) (by omega) rfl) ?_
     refine W_r rfl rfl rfl (O_len Go.Proofs.Try.underlying28 rfl hue8_0.ln) ?_
     refine W_r rfl rfl rfl (O_bin rfl rfl bI_gtr) ?_
     refine W_nil ?_
     refine N_code ?_
     refine C_cond rfl (fun hc10 => ?_) (fun hc10 => ?_)
     ·
      rw [if_t hc10] at H
      refine C_seq ?_
      refine C_region rfl ?_
      refine W_c rfl rfl rfl rfl (fun _ => rfl) ?_
      refine W_nil ?_
      refine N_code ?_
      obtain rfl := Option.some.inj H
      refine C_ret rfl rfl ?_
      exact ⟨F3, rfl, hS3⟩
     ·
      rw [if_f hc10] at H
      refine C_skip ?_
      refine N_block ?_
      refine N_code ?_
      refine C_region rfl ?_
      refine W_c rfl rfl rfl rfl (fun _ => rfl) ?_
      refine W_c rfl rfl rfl rfl (fun _ => rfl) ?_
      refine W_c rfl rfl rfl rfl (fun _ => rfl) ?_
      refine W_nil ?_
      exact N_againM (wr (i4 + 1)) _ H ⟨F3, rfl, le3, hS3⟩ ⟨rfl, rfl, trivial⟩
    ·
     rw [if_f hc6] at H
     refine C_exit _ rfl ?_
     exact N_join _ ⟨H, ⟨F3, rfl, le3, hS3⟩⟩ trivial
  ·
   rintro E w2 ⟨H, F2, rfl, le2, hS2⟩
   dsimp only [cellarerref01_long.k1] at H
   refine C_seq ?_
   refine C_region rfl ?_
   refine W_c rfl rfl rfl rfl (fun _ => rfl) ?_
   refine W_nil ?_
   refine N_code ?_
   obtain rfl := Option.some.inj H
   refine C_ret rfl rfl ?_
   exact ⟨F2, rfl, hS2⟩

def tree_Check.k1 : Option Int :=
  some 0


def tree_Check.l2 (x0 : List File) (rec7 : Int → Option Int) : Int → Option Int
  | i6 =>
    if decide (i6 < (x0.length : Int)) then
      bd (ix x0 i6) fun x9 =>
      bd (tree_Name x9.path) fun r14 =>
      bd (only ((!(!r14)) && decide (0 < i6)) (ix x0 (wr (i6 - 1))) (File.mk [] [])) fun x15 =>
      if ((!r14) || (decide (0 < i6) && (sLt x9.path x15.path || x9.path == x15.path))) then
        some 1
      else
        rec7 (wr (i6 + 1))
    else
      tree_Check.k1

def tree_Check (x0 : List File) : Option Int :=
  bd (tree_long x0) fun r1 =>
  if r1 then
    some 2
  else
    loop (tree_Check.l2 x0) 0

set_option maxRecDepth 100000 in
theorem tree_Check_ok {K : Tb} {F : Frz} {w : Hp} {x0 : List File} {r : Int} {v0 : Val} (hA : Gd F w) (h0 : SlF File.t F v0 x0) (H : tree_Check x0 = some r) : Ret Try.prog K 8 [v0] w fun v w' => ∃ (F' : Frz), v = .i .i64 r ∧ St [] w F F' [] w' := by
 refine Ret_of (args := [v0]) Go.Proofs.Try.func8 rfl (by decide) rfl ?_
 change C _ _ _ _ _ [(0, v0)] _
 have hS := St.start hA
 dsimp only [tree_Check] at H
 refine C_seq ?_
 refine C_region rfl ?_
 refine W_c rfl rfl rfl rfl (fun _ => rfl) ?_
 refine W_nil ?_
 refine N_code ?_
 refine C_seq ?_
 refine C_seq ?_
 obtain ⟨r1, hr1, H⟩ := bd_some H
 refine C_region rfl ?_
 refine W_c rfl rfl rfl rfl (fun _ => rfl) ?_
 refine W_call (f := 17) (args := [v0]) rfl rfl rfl rfl (tree_long_ok hS.good h0 hr1) ?_
 rintro v2 w2 ⟨Fr1, rfl, hT2⟩
 have hS2 := hS.lent hT2
 refine Nxt.now ?_
 refine W_nil ?_
 refine N_code ?_
 refine C_cond rfl (fun hc3 => ?_) (fun hc3 => ?_)
 ·
  rw [if_t hc3] at H
  refine C_seq ?_
  refine C_region rfl ?_
  refine W_c rfl rfl rfl rfl (fun _ => rfl) ?_
  refine W_nil ?_
  refine N_code ?_
  obtain rfl := Option.some.inj H
  refine C_ret rfl rfl ?_
  exact ⟨F, rfl, hS2⟩
 ·
  rw [if_f hc3] at H
  refine C_skip ?_
  refine N_code ?_
  refine C_seq_join (fun E wq => tree_Check.k1 = some r ∧ ∃ (F4 : Frz), E = [] ∧ F.le F4 ∧ St [] w F F4 [] wq) ?_ ?_
  ·
   refine C_seq ?_
   refine C_region rfl ?_
   refine W_c rfl rfl rfl rfl (fun _ => rfl) ?_
   refine W_r rfl rfl rfl (O_len Go.Proofs.Try.underlying22 rfl h0.ln) ?_
   refine W_c rfl rfl rfl rfl (fun _ => rfl) ?_
   refine W_nil ?_
   refine N_code ?_
   refine C_block ?_
   refine C_loopM (fun (s : Int) E wq => ∃ (F5 : Frz), E = [(0, v0), (7, v0), (8, .i .i64 (x0.length : Int)), (9, .i .i64 s)] ∧ F.le F5 ∧ St [] w F F5 [] wq) H ?_ ?_
   ·
    exact ⟨_, ⟨F, rfl, (Frz.le.refl _), hS2⟩, ⟨rfl, rfl, rfl, rfl, trivial⟩⟩
   ·
    rintro rec7 i6 E w5 hI H
    try dsimp only at hI
    obtain ⟨F5, rfl, le5, hS5⟩ := hI
    dsimp only [tree_Check.l2] at H
    refine C_seq ?_
    refine C_region rfl ?_
    refine W_r rfl rfl rfl (O_bin rfl rfl bI_lss) ?_
    refine W_nil ?_
    refine N_code ?_
    refine C_seq ?_
    refine C_cond rfl (fun hc8 => ?_) (fun hc8 => ?_)
    ·
     rw [if_t hc8] at H
     refine C_skip ?_
     refine N_code ?_
     refine C_seq ?_
     refine C_block ?_
     refine C_seq ?_
     obtain ⟨x9, hx9, H⟩ := bd_some H
     refine C_region rfl ?_
     refine W_c rfl rfl rfl rfl (fun _ => rfl) ?_
     obtain ⟨hp12, hy12⟩ := ix_some hx9
     obtain ⟨cs12, hr12, he12⟩ := (h0.mono le5).el hy12
     obtain ⟨ue10_0, rfl, hue10_0⟩ := hr12
     replace he12 : Elf _ _ 2 _ _ := he12
     have hi12 := he12.ixd
     refine W_r rfl rfl rfl (O_ix Go.Proofs.Try.underlying22 Ty.size30 rfl rfl hi12 hp12 rfl) ?_
     refine W_r rfl rfl rfl (O_ldg 0 (File.cells x9 ue10_0) Ty.agg30 Ty.size30 rfl (he12.mono hS5.agree) (by omega) rfl (Nat.le_of_ble_eq_true rfl)) ?_
     refine W_x rfl rfl rfl (E_alc (cs := [.s [], .sl none 0 (some 0)]) Ty.zero30 rfl hS5) ?_
     rintro _ w11 ⟨g11, rfl, hS11⟩
     refine Nxt.now ?_
     refine W_c rfl rfl rfl rfl (fun _ => rfl) ?_
     refine W_xU rfl rfl rfl (E_bst (c := [.s x9.path, ue10_0]) 0 ([.s x9.path, ue10_0]) rfl rfl hS11 rfl rfl Ty.size30 (by simp only [List.all_cons, List.all_nil, List.all_append, hue10_0.ln.one]; rfl) rfl rfl) ?_
     rintro _ w13 hS13
     refine Nxt.now ?_
     refine W_nil ?_
     refine N_code ?_
     refine C_seq ?_
     obtain ⟨r14, hr14, H⟩ := bd_some H
     obtain ⟨x15, hx15, H⟩ := bd_some H
     refine C_join (fun E wq => E = [(0, v0), (7, v0), (8, .i .i64 (x0.length : Int)), (9, .i .i64 i6), (32, .b ((!r14) || (decide (0 < i6) && (sLt x9.path x15.path || x9.path == x15.path))))] ∧ ∃ F17 : Frz, F5.le F17 ∧ St [] w F F17 [.box g11 [.s x9.path, ue10_0]] wq) ?_ ?_
     ·
      rcases Bool.eq_false_or_eq_true (!r14) with hb18 | hb18
      ·
       refine C_regionD (G := F5) [0, 1, 2, 3, 4, 5, 6, 7, 8, 9, 10, 11, 12, 13, 14, 15, 16, 17, 18] rfl Ty.mixed (by kernel_rfl) hS13.agree ?_
       refine W_r rfl rfl rfl (O_fldB 0 Ty.field30_0 rfl) ?_
       refine W_q (by kernel_rfl) rfl rfl rfl (O_bld1 0 Ty.cell9 rfl hS13 rfl rfl) ?_
       refine W_call (f := 12) (args := [.s x9.path]) rfl rfl rfl rfl (tree_Name_ok hS13.good hr14) ?_
       rintro v19 w19 ⟨Fr14, rfl, hT19⟩
       have hS19 := hS13.lent hT19
       refine Nxt.frz (Frz.le.refl _) hS19.agree ?_
       refine W_c rfl rfl rfl rfl (fun _ => rfl) ?_
       refine W_c rfl rfl rfl rfl (fun _ => rfl) ?_
       refine W_eqv (t := 18) (v' := .b true) rfl (congrArg Val.b hb18) ?_
       refine W_no rfl rfl rfl ?_
       refine W_no rfl rfl rfl ?_
       refine W_no rfl rfl rfl ?_
       refine W_no rfl rfl rfl ?_
       refine W_no rfl rfl rfl ?_
       refine W_no rfl rfl rfl ?_
       refine W_no rfl rfl rfl ?_
       refine W_no rfl rfl rfl ?_
       refine W_no rfl rfl rfl ?_
       refine W_no rfl rfl rfl ?_
       refine W_no rfl rfl rfl ?_
       refine W_no rfl rfl rfl ?_
       refine W_no rfl rfl rfl ?_
       refine W_c rfl rfl rfl rfl (fun _ => rfl) ?_
       refine W_nil ?_
       exact N_join _ ⟨rfl, F5, (Frz.le.refl _), hS19⟩ ⟨rfl, rfl, rfl, rfl, (look_bool rfl (by first | rfl | (rw [hb18]; first | done | rfl) | simp [hb18])), trivial⟩
      ·
       rcases Bool.eq_false_or_eq_true (decide (0 < i6)) with hb20 | hb20
       ·
        refine C_regionD (G := F5) [0, 1, 2, 3, 4, 5, 6, 7, 8, 9, 10, 11, 12, 13, 14, 15, 16, 17, 18] rfl Ty.mixed (by kernel_rfl) hS13.agree ?_
        refine W_r rfl rfl rfl (O_fldB 0 Ty.field30_0 rfl) ?_
        refine W_q (by kernel_rfl) rfl rfl rfl (O_bld1 0 Ty.cell9 rfl hS13 rfl rfl) ?_
        refine W_call (f := 12) (args := [.s x9.path]) rfl rfl rfl rfl (tree_Name_ok hS13.good hr14) ?_
        rintro v21 w21 ⟨Fr14, rfl, hT21⟩
        have hS21 := hS13.lent hT21
        refine Nxt.frz (Frz.le.refl _) hS21.agree ?_
        refine W_c rfl rfl rfl rfl (fun _ => rfl) ?_
        refine W_c rfl rfl rfl rfl (fun _ => rfl) ?_
        refine W_eqv (t := 18) (v' := .b false) rfl (congrArg Val.b hb18) ?_
        refine W_c rfl rfl rfl rfl (fun _ => rfl) ?_
        refine W_r rfl rfl rfl (O_bin rfl rfl bI_gtr) ?_
        refine W_c rfl rfl rfl rfl (fun _ => rfl) ?_
        refine W_eqv (t := 21) (v' := .b true) rfl (congrArg Val.b hb20) ?_
        refine W_r rfl rfl rfl (O_fldB 0 Ty.field30_0 rfl) ?_
        refine W_q (by kernel_rfl) rfl rfl rfl (O_bld1 0 Ty.cell9 rfl hS21 rfl rfl) ?_
        refine W_c rfl rfl rfl rfl (fun _ => rfl) ?_
        refine W_c rfl rfl rfl rfl (fun _ => rfl) ?_
        refine W_c rfl rfl rfl rfl (fun _ => rfl) ?_
        have hy22 := hx15
        rw [only_t (by first | rfl | (rw [hb20, hb18]; first | done | rfl) | simp [hb18, hb20])] at hy22
        obtain ⟨hp23, hy23⟩ := ix_some hy22
        obtain ⟨cs23, hr23, he23⟩ := (h0.mono le5).el hy23
        obtain ⟨ue16_0, rfl, hue16_0⟩ := hr23
        replace he23 : Elf _ _ 2 _ _ := he23
        have hi23 := he23.ixd
        refine W_r rfl rfl rfl (O_ix Go.Proofs.Try.underlying22 Ty.size30 rfl rfl hi23 hp23 rfl) ?_
        refine W_r rfl rfl rfl (O_fld 0 Ty.field30_0 rfl hi23) ?_
        refine W_q (by kernel_rfl) rfl rfl rfl (O_ld1 0 Ty.cell9 rfl (he23.mono hS21.agree) (by omega) rfl) ?_
        refine W_r rfl rfl rfl (O_bin rfl rfl bS_leq) ?_
        refine W_c rfl rfl rfl rfl (fun _ => rfl) ?_
        refine W_c rfl rfl rfl rfl (fun _ => rfl) ?_
        refine W_nil ?_
        exact N_join _ ⟨rfl, F5, (Frz.le.refl _), hS21⟩ ⟨rfl, rfl, rfl, rfl, (look_bool rfl (by first | rfl | (rw [hb20, hb18]; first | done | rfl) | simp [hb18, hb20])), trivial⟩
       ·
        refine C_regionD (G := F5) [0, 1, 2, 3, 4, 5, 6, 7, 8, 9, 10, 11, 12, 13, 14, 15, 16, 17, 18] rfl Ty.mixed (by kernel_rfl) hS13.agree ?_
        refine W_r rfl rfl rfl (O_fldB 0 Ty.field30_0 rfl) ?_
        refine W_q (by kernel_rfl) rfl rfl rfl (O_bld1 0 Ty.cell9 rfl hS13 rfl rfl) ?_
        refine W_call (f := 12) (args := [.s x9.path]) rfl rfl rfl rfl (tree_Name_ok hS13.good hr14) ?_
        rintro v24 w24 ⟨Fr14, rfl, hT24⟩
        have hS24 := hS13.lent hT24
        refine Nxt.frz (Frz.le.refl _) hS24.agree ?_
        refine W_c rfl rfl rfl rfl (fun _ => rfl) ?_
        refine W_c rfl rfl rfl rfl (fun _ => rfl) ?_
        refine W_eqv (t := 18) (v' := .b false) rfl (congrArg Val.b hb18) ?_
        refine W_c rfl rfl rfl rfl (fun _ => rfl) ?_
        refine W_r rfl rfl rfl (O_bin rfl rfl bI_gtr) ?_
        refine W_c rfl rfl rfl rfl (fun _ => rfl) ?_
        refine W_eqv (t := 21) (v' := .b false) rfl (congrArg Val.b hb20) ?_
        refine W_no rfl rfl rfl ?_
        refine W_no rfl rfl rfl ?_
        refine W_no rfl rfl rfl ?_
        refine W_no rfl rfl rfl ?_
        refine W_no rfl rfl rfl ?_
        refine W_no rfl rfl rfl ?_
        refine W_no rfl rfl rfl ?_
        refine W_no rfl rfl rfl ?_
        refine W_no rfl rfl rfl ?_
        refine W_c rfl rfl rfl rfl (fun _ => rfl) ?_
        refine W_c rfl rfl rfl rfl (fun _ => rfl) ?_
        refine W_nil ?_
        exact N_join _ ⟨rfl, F5, (Frz.le.refl _), hS24⟩ ⟨rfl, rfl, rfl, rfl, (look_bool rfl (by first | rfl | (rw [hb20, hb18]; first | done | rfl) | simp [hb18, hb20])), trivial⟩
     rintro E w17 ⟨rfl, F17, le17, hS17⟩
     refine N_code ?_
     refine C_cond rfl (fun hc25 => ?_) (fun hc25 => ?_)
     ·
      rw [if_t hc25] at H
      refine C_seq ?_
      refine C_region rfl ?_
      refine W_c rfl rfl rfl rfl (fun _ => rfl) ?_
      refine W_nil ?_
      refine N_code ?_
      obtain rfl := Option.some.inj H
      refine C_ret rfl rfl ?_
      exact ⟨F17, rfl, hS17.pick [] (by decide)⟩
     ·
      rw [if_f hc25] at H
      refine C_skip ?_
      refine N_block ?_
      refine N_code ?_
      refine C_region rfl ?_
      refine W_c rfl rfl rfl rfl (fun _ => rfl) ?_
      refine W_c rfl rfl rfl rfl (fun _ => rfl) ?_
      refine W_nil ?_
      exact N_againM (wr (i6 + 1)) _ H ⟨F17, rfl, (le5.trans le17), hS17.pick [] (by decide)⟩ ⟨rfl, rfl, rfl, rfl, trivial⟩
    ·
     rw [if_f hc8] at H
     refine C_exit _ rfl ?_
     exact N_join _ ⟨H, ⟨F5, rfl, le5, hS5⟩⟩ trivial
  ·
   rintro E w4 ⟨H, F4, rfl, le4, hS4⟩
   dsimp only [tree_Check.k1] at H
   refine C_seq ?_
   refine C_region rfl ?_
   refine W_c rfl rfl rfl rfl (fun _ => rfl) ?_
   refine W_nil ?_
   refine N_code ?_
   obtain rfl := Option.some.inj H
   refine C_ret rfl rfl ?_
   exact ⟨F4, rfl, hS4⟩

def cellarerref01_Tree.k1 : Option Int :=
  some 0


def cellarerref01_Tree.l2 (x0 : List File) (rec7 : Int → Option Int) : Int → Option Int
  | i6 =>
    if decide (i6 < (x0.length : Int)) then
      bd (ix x0 i6) fun x9 =>
      bd (cellarerref01_Name x9.path) fun r11 =>
      bd (only ((!(!r11)) && decide (0 < i6)) (ix x0 i6) (File.mk [] [])) fun x12 =>
      bd (only ((!(!r11)) && decide (0 < i6)) (ix x0 (wr (i6 - 1))) (File.mk [] [])) fun x14 =>
      if ((!r11) || (decide (0 < i6) && (sLt x12.path x14.path || x12.path == x14.path))) then
        some 1
      else
        rec7 (wr (i6 + 1))
    else
      cellarerref01_Tree.k1

def cellarerref01_Tree (x0 : List File) : Option Int :=
  bd (cellarerref01_long x0) fun r1 =>
  if r1 then
    some 2
  else
    loop (cellarerref01_Tree.l2 x0) 0

set_option maxRecDepth 100000 in
theorem cellarerref01_Tree_ok {K : Tb} {F : Frz} {w : Hp} {x0 : List File} {r : Int} {v0 : Val} (hA : Gd F w) (h0 : SlF File.t F v0 x0) (H : cellarerref01_Tree x0 = some r) : Ret Try.prog K 9 [v0] w fun v w' => ∃ (F' : Frz), v = .i .i64 r ∧ St [] w F F' [] w' := by
 refine Ret_of (args := [v0]) Go.Proofs.Try.func9 rfl (by decide) rfl ?_
 change C _ _ _ _ _ [(0, v0)] _
 have hS := St.start hA
 dsimp only [cellarerref01_Tree] at H
 refine C_seq ?_
 refine C_region rfl ?_
 refine W_c rfl rfl rfl rfl (fun _ => rfl) ?_
 refine W_nil ?_
 refine N_code ?_
 refine C_seq ?_
 refine C_seq ?_
 obtain ⟨r1, hr1, H⟩ := bd_some H
 refine C_region rfl ?_
 refine W_c rfl rfl rfl rfl (fun _ => rfl) ?_
 refine W_call (f := 24) (args := [v0]) rfl rfl rfl rfl (cellarerref01_long_ok hS.good h0 hr1) ?_
 rintro v2 w2 ⟨Fr1, rfl, hT2⟩
 have hS2 := hS.lent hT2
 refine Nxt.now ?_
 refine W_nil ?_
 refine N_code ?_
 refine C_cond rfl (fun hc3 => ?_) (fun hc3 => ?_)
 ·
  rw [if_t hc3] at H
  refine C_seq ?_
  refine C_region rfl ?_
  refine W_c rfl rfl rfl rfl (fun _ => rfl) ?_
  refine W_nil ?_
  refine N_code ?_
  obtain rfl := Option.some.inj H
  refine C_ret rfl rfl ?_
  exact ⟨F, rfl, hS2⟩
 ·
  rw [if_f hc3] at H
  refine C_skip ?_
  refine N_code ?_
  refine C_seq_join (fun E wq => cellarerref01_Tree.k1 = some r ∧ ∃ (F4 : Frz), E = [] ∧ F.le F4 ∧ St [] w F F4 [] wq) ?_ ?_
  ·
   refine C_seq ?_
   refine C_region rfl ?_
   refine W_c rfl rfl rfl rfl (fun _ => rfl) ?_
   refine W_nil ?_
   refine N_code ?_
   refine C_block ?_
   refine C_loopM (fun (s : Int) E wq => ∃ (F5 : Frz), E = [(0, v0), (3, .i .i64 s)] ∧ F.le F5 ∧ St [] w F F5 [] wq) H ?_ ?_
   ·
    exact ⟨_, ⟨F, rfl, (Frz.le.refl _), hS2⟩, ⟨rfl, rfl, trivial⟩⟩
   ·
    rintro rec7 i6 E w5 hI H
    try dsimp only at hI
    obtain ⟨F5, rfl, le5, hS5⟩ := hI
    dsimp only [cellarerref01_Tree.l2] at H
    refine C_seq ?_
    refine C_seq ?_
    refine C_region rfl ?_
    refine W_c rfl rfl rfl rfl (fun _ => rfl) ?_
    refine W_c rfl rfl rfl rfl (fun _ => rfl) ?_
    refine W_r rfl rfl rfl (O_len Go.Proofs.Try.underlying22 rfl h0.ln) ?_
    refine W_r rfl rfl rfl (O_bin rfl rfl bI_lss) ?_
    refine W_nil ?_
    refine N_code ?_
    refine C_cond rfl (fun hc8 => ?_) (fun hc8 => ?_)
    ·
     rw [if_t hc8] at H
     refine C_skip ?_
     refine N_code ?_
     refine C_seq ?_
     refine C_block ?_
     refine C_seq ?_
     obtain ⟨x9, hx9, H⟩ := bd_some H
     obtain ⟨r11, hr11, H⟩ := bd_some H
     obtain ⟨x12, hx12, H⟩ := bd_some H
     obtain ⟨x14, hx14, H⟩ := bd_some H
     refine C_join (fun E wq => E = [(0, v0), (3, .i .i64 i6), (36, .b ((!r11) || (decide (0 < i6) && (sLt x12.path x14.path || x12.path == x14.path))))] ∧ ∃ F16 : Frz, F5.le F16 ∧ St [] w F F16 [] wq) ?_ ?_
     ·
      rcases Bool.eq_false_or_eq_true (!r11) with hb17 | hb17
      ·
       refine C_regionD (G := F5) [0, 1, 2, 3, 4, 5, 6, 7, 8, 9, 10, 11, 12, 13, 14, 15, 16, 17, 18, 19, 20, 21, 22, 23, 24] rfl Ty.mixed (by kernel_rfl) hS5.agree ?_
       refine W_c rfl rfl rfl rfl (fun _ => rfl) ?_
       refine W_c rfl rfl rfl rfl (fun _ => rfl) ?_
       obtain ⟨hp18, hy18⟩ := ix_some hx9
       obtain ⟨cs18, hr18, he18⟩ := (h0.mono le5).el hy18
       obtain ⟨ue10_0, rfl, hue10_0⟩ := hr18
       replace he18 : Elf _ _ 2 _ _ := he18
       have hi18 := he18.ixd
       refine W_r rfl rfl rfl (O_ix Go.Proofs.Try.underlying22 Ty.size30 rfl rfl hi18 hp18 rfl) ?_
       refine W_r rfl rfl rfl (O_fld 0 Ty.field30_0 rfl hi18) ?_
       refine W_q (by kernel_rfl) rfl rfl rfl (O_ld1 0 Ty.cell9 rfl (he18.mono hS5.agree) (by omega) rfl) ?_
       refine W_call (f := 13) (args := [.s x9.path]) rfl rfl rfl rfl (cellarerref01_Name_ok hS5.good hr11) ?_
       rintro v19 w19 ⟨Fr11, rfl, hT19⟩
       have hS19 := hS5.lent hT19
       refine Nxt.frz (Frz.le.refl _) hS19.agree ?_
       refine W_c rfl rfl rfl rfl (fun _ => rfl) ?_
       refine W_c rfl rfl rfl rfl (fun _ => rfl) ?_
       refine W_eqv (t := 19) (v' := .b true) rfl (congrArg Val.b hb17) ?_
       refine W_no rfl rfl rfl ?_
       refine W_no rfl rfl rfl ?_
       refine W_no rfl rfl rfl ?_
       refine W_no rfl rfl rfl ?_
       refine W_no rfl rfl rfl ?_
       refine W_no rfl rfl rfl ?_
       refine W_no rfl rfl rfl ?_
       refine W_no rfl rfl rfl ?_
       refine W_no rfl rfl rfl ?_
       refine W_no rfl rfl rfl ?_
       refine W_no rfl rfl rfl ?_
       refine W_no rfl rfl rfl ?_
       refine W_no rfl rfl rfl ?_
       refine W_no rfl rfl rfl ?_
       refine W_no rfl rfl rfl ?_
       refine W_no rfl rfl rfl ?_
       refine W_c rfl rfl rfl rfl (fun _ => rfl) ?_
       refine W_nil ?_
       exact N_join _ ⟨rfl, F5, (Frz.le.refl _), hS19⟩ ⟨rfl, rfl, (look_bool rfl (by first | rfl | (rw [hb17]; first | done | rfl) | simp [hb17])), trivial⟩
      ·
       rcases Bool.eq_false_or_eq_true (decide (0 < i6)) with hb20 | hb20
       ·
        refine C_regionD (G := F5) [0, 1, 2, 3, 4, 5, 6, 7, 8, 9, 10, 11, 12, 13, 14, 15, 16, 17, 18, 19, 20, 21, 22, 23, 24] rfl Ty.mixed (by kernel_rfl) hS5.agree ?_
        refine W_c rfl rfl rfl rfl (fun _ => rfl) ?_
        refine W_c rfl rfl rfl rfl (fun _ => rfl) ?_
        obtain ⟨hp21, hy21⟩ := ix_some hx9
        obtain ⟨cs21, hr21, he21⟩ := (h0.mono le5).el hy21
        obtain ⟨ue10_0, rfl, hue10_0⟩ := hr21
        replace he21 : Elf _ _ 2 _ _ := he21
        have hi21 := he21.ixd
        refine W_r rfl rfl rfl (O_ix Go.Proofs.Try.underlying22 Ty.size30 rfl rfl hi21 hp21 rfl) ?_
        refine W_r rfl rfl rfl (O_fld 0 Ty.field30_0 rfl hi21) ?_
        refine W_q (by kernel_rfl) rfl rfl rfl (O_ld1 0 Ty.cell9 rfl (he21.mono hS5.agree) (by omega) rfl) ?_
        refine W_call (f := 13) (args := [.s x9.path]) rfl rfl rfl rfl (cellarerref01_Name_ok hS5.good hr11) ?_
        rintro v22 w22 ⟨Fr11, rfl, hT22⟩
        have hS22 := hS5.lent hT22
        refine Nxt.frz (Frz.le.refl _) hS22.agree ?_
        refine W_c rfl rfl rfl rfl (fun _ => rfl) ?_
        refine W_c rfl rfl rfl rfl (fun _ => rfl) ?_
        refine W_eqv (t := 19) (v' := .b false) rfl (congrArg Val.b hb17) ?_
        refine W_c rfl rfl rfl rfl (fun _ => rfl) ?_
        refine W_r rfl rfl rfl (O_bin rfl rfl bI_gtr) ?_
        refine W_c rfl rfl rfl rfl (fun _ => rfl) ?_
        refine W_eqv (t := 22) (v' := .b true) rfl (congrArg Val.b hb20) ?_
        refine W_c rfl rfl rfl rfl (fun _ => rfl) ?_
        refine W_c rfl rfl rfl rfl (fun _ => rfl) ?_
        have hy23 := hx12
        rw [only_t (by first | rfl | (rw [hb20, hb17]; first | done | rfl) | simp [hb17, hb20])] at hy23
        obtain ⟨hp24, hy24⟩ := ix_some hy23
        obtain ⟨cs24, hr24, he24⟩ := (h0.mono le5).el hy24
        obtain ⟨ue13_0, rfl, hue13_0⟩ := hr24
        replace he24 : Elf _ _ 2 _ _ := he24
        have hi24 := he24.ixd
        refine W_r rfl rfl rfl (O_ix Go.Proofs.Try.underlying22 Ty.size30 rfl rfl hi24 hp24 rfl) ?_
        refine W_r rfl rfl rfl (O_fld 0 Ty.field30_0 rfl hi24) ?_
        refine W_q (by kernel_rfl) rfl rfl rfl (O_ld1 0 Ty.cell9 rfl (he24.mono hS22.agree) (by omega) rfl) ?_
        refine W_c rfl rfl rfl rfl (fun _ => rfl) ?_
        refine W_c rfl rfl rfl rfl (fun _ => rfl) ?_
        refine W_c rfl rfl rfl rfl (fun _ => rfl) ?_
        have hy25 := hx14
        rw [only_t (by first | rfl | (rw [hb20, hb17]; first | done | rfl) | simp [hb17, hb20])] at hy25
        obtain ⟨hp26, hy26⟩ := ix_some hy25
        obtain ⟨cs26, hr26, he26⟩ := (h0.mono le5).el hy26
        obtain ⟨ue15_0, rfl, hue15_0⟩ := hr26
        replace he26 : Elf _ _ 2 _ _ := he26
        have hi26 := he26.ixd
        refine W_r rfl rfl rfl (O_ix Go.Proofs.Try.underlying22 Ty.size30 rfl rfl hi26 hp26 rfl) ?_
        refine W_r rfl rfl rfl (O_fld 0 Ty.field30_0 rfl hi26) ?_
        refine W_q (by kernel_rfl) rfl rfl rfl (O_ld1 0 Ty.cell9 rfl (he26.mono hS22.agree) (by omega) rfl) ?_
        refine W_r rfl rfl rfl (O_bin rfl rfl bS_leq) ?_
        refine W_c rfl rfl rfl rfl (fun _ => rfl) ?_
        refine W_c rfl rfl rfl rfl (fun _ => rfl) ?_
        refine W_nil ?_
        exact N_join _ ⟨rfl, F5, (Frz.le.refl _), hS22⟩ ⟨rfl, rfl, (look_bool rfl (by first | rfl | (rw [hb20, hb17]; first | done | rfl) | simp [hb17, hb20])), trivial⟩
       ·
        refine C_regionD (G := F5) [0, 1, 2, 3, 4, 5, 6, 7, 8, 9, 10, 11, 12, 13, 14, 15, 16, 17, 18, 19, 20, 21, 22, 23, 24] rfl Ty.mixed (by kernel_rfl) hS5.agree ?_
        refine W_c rfl rfl rfl rfl (fun _ => rfl) ?_
        refine W_c rfl rfl rfl rfl (fun _ => rfl) ?_
        obtain ⟨hp27, hy27⟩ := ix_some hx9
        obtain ⟨cs27, hr27, he27⟩ := (h0.mono le5).el hy27
        obtain ⟨ue10_0, rfl, hue10_0⟩ := hr27
        replace he27 : Elf _ _ 2 _ _ := he27
        have hi27 := he27.ixd
        refine W_r rfl rfl rfl (O_ix Go.Proofs.Try.underlying22 Ty.size30 rfl rfl hi27 hp27 rfl) ?_
        refine W_r rfl rfl rfl (O_fld 0 Ty.field30_0 rfl hi27) ?_
        refine W_q (by kernel_rfl) rfl rfl rfl (O_ld1 0 Ty.cell9 rfl (he27.mono hS5.agree) (by omega) rfl) ?_
        refine W_call (f := 13) (args := [.s x9.path]) rfl rfl rfl rfl (cellarerref01_Name_ok hS5.good hr11) ?_
        rintro v28 w28 ⟨Fr11, rfl, hT28⟩
        have hS28 := hS5.lent hT28
        refine Nxt.frz (Frz.le.refl _) hS28.agree ?_
        refine W_c rfl rfl rfl rfl (fun _ => rfl) ?_
        refine W_c rfl rfl rfl rfl (fun _ => rfl) ?_
        refine W_eqv (t := 19) (v' := .b false) rfl (congrArg Val.b hb17) ?_
        refine W_c rfl rfl rfl rfl (fun _ => rfl) ?_
        refine W_r rfl rfl rfl (O_bin rfl rfl bI_gtr) ?_
        refine W_c rfl rfl rfl rfl (fun _ => rfl) ?_
        refine W_eqv (t := 22) (v' := .b false) rfl (congrArg Val.b hb20) ?_
        refine W_no rfl rfl rfl ?_
        refine W_no rfl rfl rfl ?_
        refine W_no rfl rfl rfl ?_
        refine W_no rfl rfl rfl ?_
        refine W_no rfl rfl rfl ?_
        refine W_no rfl rfl rfl ?_
        refine W_no rfl rfl rfl ?_
        refine W_no rfl rfl rfl ?_
        refine W_no rfl rfl rfl ?_
        refine W_no rfl rfl rfl ?_
        refine W_no rfl rfl rfl ?_
        refine W_no rfl rfl rfl ?_
        refine W_c rfl rfl rfl rfl (fun _ => rfl) ?_
        refine W_c rfl rfl rfl rfl (fun _ => rfl) ?_
        refine W_nil ?_
        exact N_join _ ⟨rfl, F5, (Frz.le.refl _), hS28⟩ ⟨rfl, rfl, (look_bool rfl (by first | rfl | (rw [hb20, hb17]; first | done | rfl) | simp [hb17, hb20])), trivial⟩
     rintro E w16 ⟨rfl, F16, le16, hS16⟩
     refine N_code ?_
     refine C_cond rfl (fun hc29 => ?_) (fun hc29 => ?_)
     ·
      rw [if_t hc29] at H
      refine C_seq ?_
      refine C_region rfl ?_
      refine W_c rfl rfl rfl rfl (fun _ => rfl) ?_
      refine W_nil ?_
      refine N_code ?_
      obtain rfl := Option.some.inj H
      refine C_ret rfl rfl ?_
      exact ⟨F16, rfl, hS16⟩
     ·
      rw [if_f hc29] at H
      refine C_skip ?_
      refine N_block ?_
      refine N_code ?_
      refine C_region rfl ?_
      refine W_c rfl rfl rfl rfl (fun _ => rfl) ?_
      refine W_c rfl rfl rfl rfl (fun _ => rfl) ?_
      refine W_c rfl rfl rfl rfl (fun _ => rfl) ?_
      refine W_nil ?_
      exact N_againM (wr (i6 + 1)) _ H ⟨F16, rfl, (le5.trans le16), hS16⟩ ⟨rfl, rfl, trivial⟩
    ·
     rw [if_f hc8] at H
     refine C_exit _ rfl ?_
     exact N_join _ ⟨H, ⟨F5, rfl, le5, hS5⟩⟩ trivial
  ·
   rintro E w4 ⟨H, F4, rfl, le4, hS4⟩
   dsimp only [cellarerref01_Tree.k1] at H
   refine C_seq ?_
   refine C_region rfl ?_
   refine W_c rfl rfl rfl rfl (fun _ => rfl) ?_
   refine W_nil ?_
   refine N_code ?_
   obtain rfl := Option.some.inj H
   refine C_ret rfl rfl ?_
   exact ⟨F4, rfl, hS4⟩

def cellarerref01_Sort.k2 (l8 : List File) : Option ((List File) × Int) :=
  some (l8, 0)


def cellarerref01_Sort.k4 (i15 : Int) (rec16 : ((List File) × Int) → Option ((List File) × Int)) (l19 : List File) : Option ((List File) × Int) :=
  rec16 (l19, wr (i15 + 1))


def cellarerref01_Sort.k5 (x0 : List File) (l12 : List File) (i15 : Int) (rec16 : ((List File) × Int) → Option ((List File) × Int)) (i23 : Int) : Option ((List File) × Int) :=
  bd (only (decide (i23 < (l12.length : Int))) (ix l12 i23) (File.mk [] [])) fun x24 =>
  bd (only (decide (i23 < (l12.length : Int))) (ix x0 i15) (File.mk [] [])) fun x26 =>
  if (decide (i23 < (l12.length : Int)) && (x24.path == x26.path)) then
    some ([], 9)
  else
    bd (cut (α := File) l12 0 i23) fun l37 =>
    bd (ix x0 i15) fun x39 =>
    bd (app (α := File) [] l37) fun l41 =>
    bd (cellarerkeep_Twin x39.data) fun r43 =>
    bd (app (α := File) l41 [(File.mk x39.path r43)]) fun l45 =>
    bd (cut (α := File) l12 i23 (l12.length : Int)) fun l52 =>
    bd (app (α := File) l45 l52) fun l54 =>
    cellarerref01_Sort.k4 i15 rec16 l54


def cellarerref01_Sort.l6 (x0 : List File) (l12 : List File) (i15 : Int) (rec16 : ((List File) × Int) → Option ((List File) × Int)) (rec58 : Int → Option ((List File) × Int)) : Int → Option ((List File) × Int)
  | i57 =>
    bd (only (decide (i57 < (l12.length : Int))) (ix l12 i57) (File.mk [] [])) fun x59 =>
    bd (only (decide (i57 < (l12.length : Int))) (ix x0 i15) (File.mk [] [])) fun x61 =>
    if (decide (i57 < (l12.length : Int)) && (sLt x59.path x61.path)) then
      rec58 (wr (i57 + 1))
    else
      cellarerref01_Sort.k5 x0 l12 i15 rec16 i57


def cellarerref01_Sort.l3 (x0 : List File) (rec16 : ((List File) × Int) → Option ((List File) × Int)) : ((List File) × Int) → Option ((List File) × Int)
  | (l12, i15) =>
    if decide (i15 < (x0.length : Int)) then
      loop (cellarerref01_Sort.l6 x0 l12 i15 rec16) 0
    else
      cellarerref01_Sort.k2 l12


def cellarerref01_Sort.k1 (x0 : List File) : Option ((List File) × Int) :=
  loop (cellarerref01_Sort.l3 x0) ([], 0)


def cellarerref01_Sort.l7 (x0 : List File) (rec74 : Int → Option ((List File) × Int)) : Int → Option ((List File) × Int)
  | i73 =>
    if decide (i73 < (x0.length : Int)) then
      bd (ix x0 i73) fun x76 =>
      bd (cellarerref01_Name x76.path) fun r78 =>
      if (!r78) then
        some ([], 1)
      else
        rec74 (wr (i73 + 1))
    else
      cellarerref01_Sort.k1 x0

def cellarerref01_Sort (x0 : List File) : Option ((List File) × Int) :=
  bd (cellarerref01_long x0) fun r1 =>
  if r1 then
    some ([], 2)
  else
    loop (cellarerref01_Sort.l7 x0) 0

set_option maxRecDepth 100000 in
theorem cellarerref01_Sort_ok {K : Tb} {F : Frz} {w : Hp} {x0 : List File} {r : (List File) × Int} {v0 : Val} (hA : Gd F w) (h0 : SlF File.t F v0 x0) (H : cellarerref01_Sort x0 = some r) : Ret Try.prog K 7 [v0] w fun v w' => ∃ (F' : Frz) (q0 : Val), v = .tup [q0, .i .i64 r.2] ∧ St [] w F F' [.row File.t q0 (r.1)] w' := by
 refine Ret_of (args := [v0]) Go.Proofs.Try.func7 rfl (by decide) rfl ?_
 change C _ _ _ _ _ [(0, v0)] _
 have hS := St.start hA
 dsimp only [cellarerref01_Sort] at H
 refine C_seq ?_
 refine C_region rfl ?_
 refine W_c rfl rfl rfl rfl (fun _ => rfl) ?_
 refine W_c rfl rfl rfl rfl (fun _ => rfl) ?_
 refine W_nil ?_
 refine N_code ?_
 refine C_seq ?_
 refine C_seq ?_
 obtain ⟨r1, hr1, H⟩ := bd_some H
 refine C_region rfl ?_
 refine W_c rfl rfl rfl rfl (fun _ => rfl) ?_
 refine W_call (f := 24) (args := [v0]) rfl rfl rfl rfl (cellarerref01_long_ok hS.good h0 hr1) ?_
 rintro v2 w2 ⟨Fr1, rfl, hT2⟩
 have hS2 := hS.lent hT2
 refine Nxt.now ?_
 refine W_nil ?_
 refine N_code ?_
 refine C_cond rfl (fun hc3 => ?_) (fun hc3 => ?_)
 ·
  rw [if_t hc3] at H
  refine C_seq ?_
  refine C_region rfl ?_
  refine W_c rfl rfl rfl rfl (fun _ => rfl) ?_
  refine W_c rfl rfl rfl rfl (fun _ => rfl) ?_
  refine W_nil ?_
  refine N_code ?_
  have hS5 := hS2.nilRow File.t
  obtain rfl := Option.some.inj H
  refine C_ret rfl rfl ?_
  exact ⟨F, (.sl none 0 (some 0)), rfl, hS5⟩
 ·
  rw [if_f hc3] at H
  refine C_skip ?_
  refine N_code ?_
  refine C_seq_join (fun E wq => cellarerref01_Sort.k1 x0 = some r ∧ ∃ (F6 : Frz), E = [(0, v0)] ∧ F.le F6 ∧ St [] w F F6 [] wq) ?_ ?_
  ·
   refine C_seq ?_
   refine C_region rfl ?_
   refine W_c rfl rfl rfl rfl (fun _ => rfl) ?_
   refine W_nil ?_
   refine N_code ?_
   refine C_block ?_
   refine C_loopM (fun (s : Int) E wq => ∃ (F72 : Frz), E = [(0, v0), (4, .i .i64 s)] ∧ F.le F72 ∧ St [] w F F72 [] wq) H ?_ ?_
   ·
    exact ⟨_, ⟨F, rfl, (Frz.le.refl _), hS2⟩, ⟨rfl, rfl, trivial⟩⟩
   ·
    rintro rec74 i73 E w72 hI H
    try dsimp only at hI
    obtain ⟨F72, rfl, le72, hS72⟩ := hI
    dsimp only [cellarerref01_Sort.l7] at H
    refine C_seq ?_
    refine C_seq ?_
    refine C_region rfl ?_
    refine W_c rfl rfl rfl rfl (fun _ => rfl) ?_
    refine W_c rfl rfl rfl rfl (fun _ => rfl) ?_
    refine W_r rfl rfl rfl (O_len Go.Proofs.Try.underlying22 rfl h0.ln) ?_
    refine W_r rfl rfl rfl (O_bin rfl rfl bI_lss) ?_
    refine W_nil ?_
    refine N_code ?_
    refine C_cond rfl (fun hc75 => ?_) (fun hc75 => ?_)
    ·
     rw [if_t hc75] at H
     refine C_skip ?_
     refine N_code ?_
     refine C_seq ?_
     refine C_block ?_
     refine C_seq ?_
     obtain ⟨x76, hx76, H⟩ := bd_some H
     obtain ⟨r78, hr78, H⟩ := bd_some H
     refine C_region rfl ?_
     refine W_c rfl rfl rfl rfl (fun _ => rfl) ?_
     refine W_c rfl rfl rfl rfl (fun _ => rfl) ?_
     obtain ⟨hp79, hy79⟩ := ix_some hx76
     obtain ⟨cs79, hr79, he79⟩ := (h0.mono le72).el hy79
     obtain ⟨ue77_0, rfl, hue77_0⟩ := hr79
     replace he79 : Elf _ _ 2 _ _ := he79
     have hi79 := he79.ixd
     refine W_r rfl rfl rfl (O_ix Go.Proofs.Try.underlying22 Ty.size30 rfl rfl hi79 hp79 rfl) ?_
     refine W_r rfl rfl rfl (O_fld 0 Ty.field30_0 rfl hi79) ?_
     refine W_r rfl rfl rfl (O_ld1 0 Ty.cell9 rfl (he79.mono hS72.agree) (by omega) rfl) ?_
     refine W_call (f := 13) (args := [.s x76.path]) rfl rfl rfl rfl (cellarerref01_Name_ok hS72.good hr78) ?_
     rintro v80 w80 ⟨Fr78, rfl, hT80⟩
     have hS80 := hS72.lent hT80
     refine Nxt.now ?_
     refine W_c rfl rfl rfl rfl (fun _ => rfl) ?_
     refine W_nil ?_
     refine N_code ?_
     refine C_cond rfl (fun hc81 => ?_) (fun hc81 => ?_)
     ·
      rw [if_t hc81] at H
      refine C_seq ?_
      refine C_region rfl ?_
      refine W_c rfl rfl rfl rfl (fun _ => rfl) ?_
      refine W_c rfl rfl rfl rfl (fun _ => rfl) ?_
      refine W_nil ?_
      refine N_code ?_
      have hS83 := hS80.nilRow File.t
      obtain rfl := Option.some.inj H
      refine C_ret rfl rfl ?_
      exact ⟨F72, (.sl none 0 (some 0)), rfl, hS83⟩
     ·
      rw [if_f hc81] at H
      refine C_skip ?_
      refine N_block ?_
      refine N_code ?_
      refine C_region rfl ?_
      refine W_c rfl rfl rfl rfl (fun _ => rfl) ?_
      refine W_c rfl rfl rfl rfl (fun _ => rfl) ?_
      refine W_c rfl rfl rfl rfl (fun _ => rfl) ?_
      refine W_nil ?_
      exact N_againM (wr (i73 + 1)) _ H ⟨F72, rfl, le72, hS80⟩ ⟨rfl, rfl, trivial⟩
    ·
     rw [if_f hc75] at H
     refine C_exit _ rfl ?_
     exact N_join _ ⟨H, ⟨F72, rfl, le72, hS72⟩⟩ ⟨rfl, trivial⟩
  ·
   rintro E w6 ⟨H, F6, rfl, le6, hS6⟩
   dsimp only [cellarerref01_Sort.k1] at H
   refine C_seq ?_
   refine C_region rfl ?_
   refine W_c rfl rfl rfl rfl (fun _ => rfl) ?_
   refine W_nil ?_
   refine N_code ?_
   refine C_seq_join (fun E wq => ∃ l8 : List File, cellarerref01_Sort.k2 l8 = some r ∧ ∃ (F7 : Frz) (u9 : Val), E = [(5, u9)] ∧ F6.le F7 ∧ St [] w F F7 [.row File.t u9 l8] wq) ?_ ?_
   ·
    refine C_seq ?_
    refine C_region rfl ?_
    refine W_c rfl rfl rfl rfl (fun _ => rfl) ?_
    refine W_nil ?_
    refine N_code ?_
    refine C_block ?_
    refine C_loopM (fun (s : (List File) × Int) E wq => ∃ (F11 : Frz) (u13 : Val), E = [(0, v0), (5, u13), (6, .i .i64 s.2)] ∧ F6.le F11 ∧ St [] w F F11 [.row File.t u13 s.1] wq) H ?_ ?_
    ·
     have hS71 := hS6.nilRow File.t
     exact ⟨_, ⟨F6, (.sl none 0 (some 0)), rfl, (Frz.le.refl _), hS71⟩, ⟨rfl, rfl, rfl, trivial⟩⟩
    ·
     rintro rec16 ⟨l12, i15⟩ E w11 hI H
     try dsimp only at hI
     obtain ⟨F11, u13, rfl, le11, hS11⟩ := hI
     dsimp only [cellarerref01_Sort.l3] at H
     refine C_seq ?_
     refine C_seq ?_
     refine C_region rfl ?_
     refine W_c rfl rfl rfl rfl (fun _ => rfl) ?_
     refine W_c rfl rfl rfl rfl (fun _ => rfl) ?_
     refine W_r rfl rfl rfl (O_len Go.Proofs.Try.underlying22 rfl h0.ln) ?_
     refine W_r rfl rfl rfl (O_bin rfl rfl bI_lss) ?_
     refine W_nil ?_
     refine N_code ?_
     refine C_cond rfl (fun hc17 => ?_) (fun hc17 => ?_)
     ·
      rw [if_t hc17] at H
      refine C_skip ?_
      refine N_code ?_
      refine C_seq_join (fun E wq => ∃ l19 : List File, cellarerref01_Sort.k4 i15 rec16 l19 = some r ∧ ∃ (F18 : Frz) (u20 : Val), E = [(0, v0), (5, u20), (6, .i .i64 i15)] ∧ F11.le F18 ∧ St [] w F F18 [.row File.t u20 l19] wq) ?_ ?_
      ·
       refine C_block ?_
       refine C_seq ?_
       refine C_region rfl ?_
       refine W_c rfl rfl rfl rfl (fun _ => rfl) ?_
       refine W_nil ?_
       refine N_code ?_
       refine C_seq_join (fun E wq => ∃ i23 : Int, cellarerref01_Sort.k5 x0 l12 i15 rec16 i23 = some r ∧ ∃ (F22 : Frz), E = [(0, v0), (5, u13), (6, .i .i64 i15), (7, .i .i64 i23)] ∧ F11.le F22 ∧ St [] w F F22 [.row File.t u13 l12] wq) ?_ ?_
       ·
        refine C_block ?_
        refine C_loopM (fun (s : Int) E wq => ∃ (F56 : Frz), E = [(0, v0), (5, u13), (6, .i .i64 i15), (7, .i .i64 s)] ∧ F11.le F56 ∧ St [] w F F56 [.row File.t u13 l12] wq) H ?_ ?_
        ·
         exact ⟨_, ⟨F11, rfl, (Frz.le.refl _), hS11⟩, ⟨rfl, rfl, rfl, rfl, trivial⟩⟩
        ·
         rintro rec58 i57 E w56 hI H
         try dsimp only at hI
         obtain ⟨F56, rfl, le56, hS56⟩ := hI
         dsimp only [cellarerref01_Sort.l6] at H
         refine C_seq ?_
         refine C_seq ?_
         obtain ⟨x59, hx59, H⟩ := bd_some H
         obtain ⟨x61, hx61, H⟩ := bd_some H
         refine C_join (fun E wq => E = [(0, v0), (5, u13), (6, .i .i64 i15), (7, .i .i64 i57), (46, .b (decide (i57 < (l12.length : Int)) && (sLt x59.path x61.path)))] ∧ ∃ F63 : Frz, F56.le F63 ∧ St [] w F F63 [.row File.t u13 l12] wq) ?_ ?_
         ·
          rcases Bool.eq_false_or_eq_true (decide (i57 < (l12.length : Int))) with hb64 | hb64
          ·
           refine C_regionD (G := (nowF _)) [0, 1, 2, 3, 4, 5, 6, 7, 8, 9, 10, 11, 12, 13, 14, 15, 16] rfl Ty.mixed (by kernel_rfl) (nowF_agree _) ?_
           refine W_c rfl rfl rfl rfl (fun _ => rfl) ?_
           refine W_c rfl rfl rfl rfl (fun _ => rfl) ?_
           refine W_r rfl rfl rfl (O_len Go.Proofs.Try.underlying22 rfl (hS56.rowLn (k := 0) rfl)) ?_
           refine W_r rfl rfl rfl (O_bin rfl rfl bI_lss) ?_
           refine W_c rfl rfl rfl rfl (fun _ => rfl) ?_
           refine W_eqv (t := 34) (v' := .b true) rfl (congrArg Val.b hb64) ?_
           refine W_c rfl rfl rfl rfl (fun _ => rfl) ?_
           refine W_c rfl rfl rfl rfl (fun _ => rfl) ?_
           have hy65 := hx59
           rw [only_t hb64] at hy65
           obtain ⟨hp66, hy66⟩ := ix_some hy65
           obtain ⟨cs66, hr66, he66⟩ := hS56.rowAt (k := 0) rfl hy66
           obtain ⟨ue60_0, rfl, hue60_0⟩ := hr66
           replace he66 : Elf _ _ 2 _ _ := he66
           have hi66 := he66.ixd
           refine W_r rfl rfl rfl (O_ix Go.Proofs.Try.underlying22 Ty.size30 rfl rfl hi66 hp66 rfl) ?_
           refine W_r rfl rfl rfl (O_fld 0 Ty.field30_0 rfl hi66) ?_
           refine W_r rfl rfl rfl (O_ld1 0 Ty.cell9 rfl he66 (by omega) rfl) ?_
           refine W_c rfl rfl rfl rfl (fun _ => rfl) ?_
           refine W_c rfl rfl rfl rfl (fun _ => rfl) ?_
           have hy67 := hx61
           rw [only_t hb64] at hy67
           obtain ⟨hp68, hy68⟩ := ix_some hy67
           obtain ⟨cs68, hr68, he68⟩ := (h0.mono ((le6.trans le11).trans le56)).el hy68
           obtain ⟨ue62_0, rfl, hue62_0⟩ := hr68
           replace he68 : Elf _ _ 2 _ _ := he68
           have hi68 := he68.ixd
           refine W_r rfl rfl rfl (O_ix Go.Proofs.Try.underlying22 Ty.size30 rfl rfl hi68 hp68 rfl) ?_
           refine W_r rfl rfl rfl (O_fld 0 Ty.field30_0 rfl hi68) ?_
           refine W_r rfl rfl rfl (O_ld1 0 Ty.cell9 rfl (he68.mono hS56.agree) (by omega) rfl) ?_
           refine W_r rfl rfl rfl (O_bin rfl rfl bS_lss) ?_
           refine W_c rfl rfl rfl rfl (fun _ => rfl) ?_
           refine W_nil ?_
           exact N_join _ ⟨rfl, F56, (Frz.le.refl _), hS56⟩ ⟨rfl, rfl, rfl, rfl, (look_bool rfl (by first | rfl | (rw [hb64]; first | done | rfl) | simp [hb64])), trivial⟩
          ·
           refine C_regionD (G := (nowF _)) [0, 1, 2, 3, 4, 5, 6, 7, 8, 9, 10, 11, 12, 13, 14, 15, 16] rfl Ty.mixed (by kernel_rfl) (nowF_agree _) ?_
           refine W_c rfl rfl rfl rfl (fun _ => rfl) ?_
           refine W_c rfl rfl rfl rfl (fun _ => rfl) ?_
           refine W_r rfl rfl rfl (O_len Go.Proofs.Try.underlying22 rfl (hS56.rowLn (k := 0) rfl)) ?_
           refine W_r rfl rfl rfl (O_bin rfl rfl bI_lss) ?_
           refine W_c rfl rfl rfl rfl (fun _ => rfl) ?_
           refine W_eqv (t := 34) (v' := .b false) rfl (congrArg Val.b hb64) ?_
           refine W_no rfl rfl rfl ?_
           refine W_no rfl rfl rfl ?_
           refine W_no rfl rfl rfl ?_
           refine W_no rfl rfl rfl ?_
           refine W_no rfl rfl rfl ?_
           refine W_no rfl rfl rfl ?_
           refine W_no rfl rfl rfl ?_
           refine W_no rfl rfl rfl ?_
           refine W_no rfl rfl rfl ?_
           refine W_no rfl rfl rfl ?_
           refine W_no rfl rfl rfl ?_
           refine W_c rfl rfl rfl rfl (fun _ => rfl) ?_
           refine W_nil ?_
           exact N_join _ ⟨rfl, F56, (Frz.le.refl _), hS56⟩ ⟨rfl, rfl, rfl, rfl, (look_bool rfl (by first | rfl | (rw [hb64]; first | done | rfl) | simp [hb64])), trivial⟩
         rintro E w63 ⟨rfl, F63, le63, hS63⟩
         refine N_code ?_
         refine C_cond rfl (fun hc69 => ?_) (fun hc69 => ?_)
         ·
          rw [if_t hc69] at H
          refine C_skip ?_
          refine N_code ?_
          refine C_block ?_
          refine C_region rfl ?_
          refine W_c rfl rfl rfl rfl (fun _ => rfl) ?_
          refine W_c rfl rfl rfl rfl (fun _ => rfl) ?_
          refine W_c rfl rfl rfl rfl (fun _ => rfl) ?_
          refine W_nil ?_
          refine N_block ?_
          exact N_againM (wr (i57 + 1)) _ H ⟨F63, rfl, (le56.trans le63), hS63⟩ ⟨rfl, rfl, rfl, rfl, trivial⟩
         ·
          rw [if_f hc69] at H
          refine C_exit _ rfl ?_
          exact N_join _ ⟨i57, H, ⟨F63, rfl, (le56.trans le63), hS63⟩⟩ ⟨rfl, rfl, rfl, rfl, trivial⟩
       ·
        rintro E w22 ⟨i23, H, F22, rfl, le22, hS22⟩
        dsimp only [cellarerref01_Sort.k5] at H
        refine C_seq ?_
        refine C_seq ?_
        obtain ⟨x24, hx24, H⟩ := bd_some H
        obtain ⟨x26, hx26, H⟩ := bd_some H
        refine C_join (fun E wq => E = [(0, v0), (5, u13), (6, .i .i64 i15), (7, .i .i64 i23), (65, .b (decide (i23 < (l12.length : Int)) && (x24.path == x26.path)))] ∧ ∃ F28 : Frz, F22.le F28 ∧ St [] w F F28 [.row File.t u13 l12] wq) ?_ ?_
        ·
         rcases Bool.eq_false_or_eq_true (decide (i23 < (l12.length : Int))) with hb29 | hb29
         ·
          refine C_regionD (G := (nowF _)) [0, 1, 2, 3, 4, 5, 6, 7, 8, 9, 10, 11, 12, 13, 14, 15, 16] rfl Ty.mixed (by kernel_rfl) (nowF_agree _) ?_
          refine W_c rfl rfl rfl rfl (fun _ => rfl) ?_
          refine W_c rfl rfl rfl rfl (fun _ => rfl) ?_
          refine W_r rfl rfl rfl (O_len Go.Proofs.Try.underlying22 rfl (hS22.rowLn (k := 0) rfl)) ?_
          refine W_r rfl rfl rfl (O_bin rfl rfl bI_lss) ?_
          refine W_c rfl rfl rfl rfl (fun _ => rfl) ?_
          refine W_eqv (t := 53) (v' := .b true) rfl (congrArg Val.b hb29) ?_
          refine W_c rfl rfl rfl rfl (fun _ => rfl) ?_
          refine W_c rfl rfl rfl rfl (fun _ => rfl) ?_
          have hy30 := hx24
          rw [only_t hb29] at hy30
          obtain ⟨hp31, hy31⟩ := ix_some hy30
          obtain ⟨cs31, hr31, he31⟩ := hS22.rowAt (k := 0) rfl hy31
          obtain ⟨ue25_0, rfl, hue25_0⟩ := hr31
          replace he31 : Elf _ _ 2 _ _ := he31
          have hi31 := he31.ixd
          refine W_r rfl rfl rfl (O_ix Go.Proofs.Try.underlying22 Ty.size30 rfl rfl hi31 hp31 rfl) ?_
          refine W_r rfl rfl rfl (O_fld 0 Ty.field30_0 rfl hi31) ?_
          refine W_r rfl rfl rfl (O_ld1 0 Ty.cell9 rfl he31 (by omega) rfl) ?_
          refine W_c rfl rfl rfl rfl (fun _ => rfl) ?_
          refine W_c rfl rfl rfl rfl (fun _ => rfl) ?_
          have hy32 := hx26
          rw [only_t hb29] at hy32
          obtain ⟨hp33, hy33⟩ := ix_some hy32
          obtain ⟨cs33, hr33, he33⟩ := (h0.mono ((le6.trans le11).trans le22)).el hy33
          obtain ⟨ue27_0, rfl, hue27_0⟩ := hr33
          replace he33 : Elf _ _ 2 _ _ := he33
          have hi33 := he33.ixd
          refine W_r rfl rfl rfl (O_ix Go.Proofs.Try.underlying22 Ty.size30 rfl rfl hi33 hp33 rfl) ?_
          refine W_r rfl rfl rfl (O_fld 0 Ty.field30_0 rfl hi33) ?_
          refine W_r rfl rfl rfl (O_ld1 0 Ty.cell9 rfl (he33.mono hS22.agree) (by omega) rfl) ?_
          refine W_r rfl rfl rfl (O_bin rfl rfl bS_eql) ?_
          refine W_c rfl rfl rfl rfl (fun _ => rfl) ?_
          refine W_nil ?_
          exact N_join _ ⟨rfl, F22, (Frz.le.refl _), hS22⟩ ⟨rfl, rfl, rfl, rfl, (look_bool rfl (by first | rfl | (rw [hb29]; first | done | rfl) | simp [hb29])), trivial⟩
         ·
          refine C_regionD (G := (nowF _)) [0, 1, 2, 3, 4, 5, 6, 7, 8, 9, 10, 11, 12, 13, 14, 15, 16] rfl Ty.mixed (by kernel_rfl) (nowF_agree _) ?_
          refine W_c rfl rfl rfl rfl (fun _ => rfl) ?_
          refine W_c rfl rfl rfl rfl (fun _ => rfl) ?_
          refine W_r rfl rfl rfl (O_len Go.Proofs.Try.underlying22 rfl (hS22.rowLn (k := 0) rfl)) ?_
          refine W_r rfl rfl rfl (O_bin rfl rfl bI_lss) ?_
          refine W_c rfl rfl rfl rfl (fun _ => rfl) ?_
          refine W_eqv (t := 53) (v' := .b false) rfl (congrArg Val.b hb29) ?_
          refine W_no rfl rfl rfl ?_
          refine W_no rfl rfl rfl ?_
          refine W_no rfl rfl rfl ?_
          refine W_no rfl rfl rfl ?_
          refine W_no rfl rfl rfl ?_
          refine W_no rfl rfl rfl ?_
          refine W_no rfl rfl rfl ?_
          refine W_no rfl rfl rfl ?_
          refine W_no rfl rfl rfl ?_
          refine W_no rfl rfl rfl ?_
          refine W_no rfl rfl rfl ?_
          refine W_c rfl rfl rfl rfl (fun _ => rfl) ?_
          refine W_nil ?_
          exact N_join _ ⟨rfl, F22, (Frz.le.refl _), hS22⟩ ⟨rfl, rfl, rfl, rfl, (look_bool rfl (by first | rfl | (rw [hb29]; first | done | rfl) | simp [hb29])), trivial⟩
        rintro E w28 ⟨rfl, F28, le28, hS28⟩
        refine N_code ?_
        refine C_cond rfl (fun hc34 => ?_) (fun hc34 => ?_)
        ·
         rw [if_t hc34] at H
         refine C_seq ?_
         refine C_region rfl ?_
         refine W_c rfl rfl rfl rfl (fun _ => rfl) ?_
         refine W_c rfl rfl rfl rfl (fun _ => rfl) ?_
         refine W_nil ?_
         refine N_code ?_
         have hS36 := hS28.nilRow File.t
         obtain rfl := Option.some.inj H
         refine C_ret rfl rfl ?_
         exact ⟨F28, (.sl none 0 (some 0)), rfl, hS36.pick [0] (by decide)⟩
        ·
         rw [if_f hc34] at H
         refine C_skip ?_
         refine N_code ?_
         refine C_seq ?_
         refine C_region rfl ?_
         refine W_c rfl rfl rfl rfl (fun _ => rfl) ?_
         refine W_nil ?_
         refine N_code ?_
         refine C_seq ?_
         obtain ⟨l37, hl37, H⟩ := bd_some H
         obtain ⟨x39, hx39, H⟩ := bd_some H
         obtain ⟨l41, hl41, H⟩ := bd_some H
         obtain ⟨r43, hr43, H⟩ := bd_some H
         obtain ⟨l45, hl45, H⟩ := bd_some H
         refine C_regionD (G := F28) [0, 1, 2, 3, 5, 6, 7, 8, 9, 10, 11, 12, 13, 14, 4, 15, 16, 17, 18, 19] rfl Ty.mixed (by kernel_rfl) hS28.agree ?_
         refine W_c rfl rfl rfl rfl (fun _ => rfl) ?_
         refine W_c rfl rfl rfl rfl (fun _ => rfl) ?_
         refine W_c rfl rfl rfl rfl (fun _ => rfl) ?_
         refine W_cutR 0 0 i23 (.inr (by kernel_rfl)) rfl rfl rfl rfl Go.Proofs.Try.underlying22 Ty.size30 rfl (.inl ⟨rfl, rfl⟩) (.inr ⟨_, _, rfl, rfl⟩) hS28 rfl hl37 ?_
         intro q38 hv38 hw38
         refine W_c rfl rfl rfl rfl (fun _ => rfl) ?_
         refine W_c rfl rfl rfl rfl (fun _ => rfl) ?_
         obtain ⟨hp47, hy47⟩ := ix_some hx39
         obtain ⟨cs47, hr47, he47⟩ := (h0.mono (((le6.trans le11).trans le22).trans le28)).el hy47
         obtain ⟨ue40_0, rfl, hue40_0⟩ := hr47
         replace he47 : Elf _ _ 2 _ _ := he47
         have hi47 := he47.ixd
         refine W_r rfl rfl rfl (O_ix Go.Proofs.Try.underlying22 Ty.size30 rfl rfl hi47 hp47 rfl) ?_
         refine W_r rfl rfl rfl (O_fld 0 Ty.field30_0 rfl hi47) ?_
         refine W_r rfl rfl rfl (O_ld1 0 Ty.cell9 rfl he47 (by omega) rfl) ?_
         refine W_c rfl rfl rfl rfl (fun _ => rfl) ?_
         refine W_c rfl rfl rfl rfl (fun _ => rfl) ?_
         refine W_r rfl rfl rfl (O_ix Go.Proofs.Try.underlying22 Ty.size30 rfl rfl hi47 hp47 rfl) ?_
         refine W_r rfl rfl rfl (O_fld 1 Ty.field30_1 rfl hi47) ?_
         refine W_r rfl rfl rfl (O_ld1 1 Ty.cell28 rfl he47 (by omega) rfl) ?_
         have hS48 := hS28.nilRow File.t
         refine W_x rfl rfl rfl (E_app (t := File.t) 0 Go.Proofs.Try.underlying22 Ty.row30 Ty.zk22 rfl rfl hS48 rfl hv38 hl41) ?_
         rintro v42 w42 hS42
         refine Nxt.frz (Frz.le.refl _) hS42.agree ?_
         refine W_call (f := 16) (args := [ue40_0]) rfl rfl rfl rfl (cellarerkeep_Twin_ok hS42.good hue40_0 hr43) ?_
         rintro ur43_0 w49 ⟨Fr43, _, rfl, hT49⟩
         have hS49 := hS42.call hT49
         have ler43 := hT49.ext
         refine Nxt.frz ler43 hS49.agree ?_
         have hcl50 := (hS49.rowLn (k := 0) rfl).cells
         refine W_r rfl rfl rfl (O_build (vs := [(0, .s x39.path), (1, ur43_0)]) (v := .agg (File.cells (File.mk x39.path r43) ur43_0)) Ty.bld30 rfl (by simp only [fillV, hcl50]; rfl)) ?_
         obtain ⟨F51, le51, hf51, hS51⟩ := hS49.freezeR 0 [1, 2] rfl (by decide) (by decide)
         refine W_rg le51 hS51.agree ?_
         refine W_x rfl rfl rfl (E_bs (t := File.t) (vs := [.agg (File.cells (File.mk x39.path r43) ur43_0)]) (xs := [(File.mk x39.path r43)]) Go.Proofs.Try.underlying22 Ty.row30 rfl ⟨⟨ur43_0, rfl, hf51⟩, trivial⟩ rfl rfl hS51) ?_
         rintro u44 w44 hS44
         refine Nxt.frz (Frz.le.refl _) hS44.agree ?_
         refine W_x rfl rfl rfl (E_app (t := File.t) 1 Go.Proofs.Try.underlying22 Ty.row30 Ty.zk22 rfl rfl hS44 rfl (hS44.rowSrc (k := 0) rfl) hl45) ?_
         rintro v46 w46 hS46
         refine Nxt.frz (Frz.le.refl _) hS46.agree ?_
         refine W_c rfl rfl rfl rfl (fun _ => rfl) ?_
         refine W_nil ?_
         refine N_code ?_
         obtain ⟨l52, hl52, H⟩ := bd_some H
         obtain ⟨l54, hl54, H⟩ := bd_some H
         refine C_region rfl ?_
         refine W_c rfl rfl rfl rfl (fun _ => rfl) ?_
         refine W_c rfl rfl rfl rfl (fun _ => rfl) ?_
         refine W_c rfl rfl rfl rfl (fun _ => rfl) ?_
         refine W_cutR 2 i23 (l12.length : Int) (.inl rfl) rfl rfl rfl rfl Go.Proofs.Try.underlying22 Ty.size30 rfl (.inr ⟨_, _, rfl, rfl⟩) (.inl ⟨rfl, rfl⟩) hS46 rfl hl52 ?_
         intro q53 hv53 hw53
         refine W_x rfl rfl rfl (E_app (t := File.t) 1 Go.Proofs.Try.underlying22 Ty.row30 Ty.zk22 rfl rfl hS46 rfl hv53 hl54) ?_
         rintro v55 w55 hS55
         refine Nxt.now ?_
         refine W_c rfl rfl rfl rfl (fun _ => rfl) ?_
         refine W_nil ?_
         refine N_block ?_
         exact N_join _ ⟨l54, H, ⟨F51, v55, rfl, (((le22.trans le28).trans ler43).trans le51), hS55.pick [1] (by decide)⟩⟩ ⟨rfl, rfl, rfl, trivial⟩
      ·
       rintro E w18 ⟨l19, H, F18, u20, rfl, le18, hS18⟩
       dsimp only [cellarerref01_Sort.k4] at H
       refine C_region rfl ?_
       refine W_c rfl rfl rfl rfl (fun _ => rfl) ?_
       refine W_c rfl rfl rfl rfl (fun _ => rfl) ?_
       refine W_c rfl rfl rfl rfl (fun _ => rfl) ?_
       refine W_nil ?_
       exact N_againM (l19, wr (i15 + 1)) _ H ⟨F18, u20, rfl, (le11.trans le18), hS18⟩ ⟨rfl, rfl, rfl, trivial⟩
     ·
      rw [if_f hc17] at H
      refine C_exit _ rfl ?_
      exact N_join _ ⟨l12, H, ⟨F11, u13, rfl, le11, hS11⟩⟩ ⟨rfl, trivial⟩
   ·
    rintro E w7 ⟨l8, H, F7, u9, rfl, le7, hS7⟩
    dsimp only [cellarerref01_Sort.k2] at H
    refine C_seq ?_
    refine C_region rfl ?_
    refine W_c rfl rfl rfl rfl (fun _ => rfl) ?_
    refine W_c rfl rfl rfl rfl (fun _ => rfl) ?_
    refine W_c rfl rfl rfl rfl (fun _ => rfl) ?_
    refine W_nil ?_
    refine N_code ?_
    obtain rfl := Option.some.inj H
    refine C_ret rfl rfl ?_
    exact ⟨F7, u9, rfl, hS7⟩

def cmp_isNaN_string (x0 : List UInt8) : Option Bool :=
  some (!(x0 == x0))

set_option maxRecDepth 100000 in
theorem cmp_isNaN_string_ok {K : Tb} {F : Frz} {w : Hp} {x0 : List UInt8} {r : Bool} (hA : Gd F w) (H : cmp_isNaN_string x0 = some r) : Ret Try.prog K 33 [.s x0] w fun v w' => ∃ (F' : Frz), v = .b r ∧ St [] w F F' [] w' := by
 refine Ret_of (args := [.s x0]) Go.Proofs.Try.func33 rfl (by decide) rfl ?_
 change C _ _ _ _ _ [(0, .s x0)] _
 have hS := St.start hA
 dsimp only [cmp_isNaN_string] at H
 refine C_seq ?_
 refine C_region rfl ?_
 refine W_c rfl rfl rfl rfl (fun _ => rfl) ?_
 refine W_nil ?_
 refine N_code ?_
 refine C_seq ?_
 refine C_region rfl ?_
 refine W_c rfl rfl rfl rfl (fun _ => rfl) ?_
 refine W_c rfl rfl rfl rfl (fun _ => rfl) ?_
 refine W_r rfl rfl rfl (O_bin rfl rfl bS_neq) ?_
 refine W_c rfl rfl rfl rfl (fun _ => rfl) ?_
 refine W_nil ?_
 refine N_code ?_
 obtain rfl := Option.some.inj H
 refine C_ret rfl rfl ?_
 exact ⟨F, rfl, hS⟩

def cmp_Compare_string (x0 : List UInt8) (x1 : List UInt8) : Option Int :=
  bd (cmp_isNaN_string x0) fun r1 =>
  bd (cmp_isNaN_string x1) fun r3 =>
  if r1 then
    if r3 then
      some 0
    else
      some (-1)
  else
    if r3 then
      some 1
    else
      if (sLt x0 x1) then
        some (-1)
      else
        if (!(sLt x0 x1 || x0 == x1)) then
          some 1
        else
          some 0

set_option maxRecDepth 100000 in
theorem cmp_Compare_string_ok {K : Tb} {F : Frz} {w : Hp} {x0 : List UInt8} {x1 : List UInt8} {r : Int} (hA : Gd F w) (H : cmp_Compare_string x0 x1 = some r) : Ret Try.prog K 23 [.s x0, .s x1] w fun v w' => ∃ (F' : Frz), v = .i .i64 r ∧ St [] w F F' [] w' := by
 refine Ret_of (args := [.s x0, .s x1]) Go.Proofs.Try.func23 rfl (by decide) rfl ?_
 change C _ _ _ _ _ [(0, .s x0), (1, .s x1)] _
 have hS := St.start hA
 dsimp only [cmp_Compare_string] at H
 refine C_seq ?_
 refine C_region rfl ?_
 refine W_c rfl rfl rfl rfl (fun _ => rfl) ?_
 refine W_nil ?_
 refine N_code ?_
 refine C_seq ?_
 obtain ⟨r1, hr1, H⟩ := bd_some H
 refine C_region rfl ?_
 refine W_c rfl rfl rfl rfl (fun _ => rfl) ?_
 refine W_call (f := 33) (args := [.s x0]) rfl rfl rfl rfl (cmp_isNaN_string_ok hS.good hr1) ?_
 rintro v2 w2 ⟨Fr1, rfl, hT2⟩
 have hS2 := hS.lent hT2
 refine Nxt.now ?_
 refine W_c rfl rfl rfl rfl (fun _ => rfl) ?_
 refine W_nil ?_
 refine N_code ?_
 refine C_seq ?_
 obtain ⟨r3, hr3, H⟩ := bd_some H
 refine C_region rfl ?_
 refine W_c rfl rfl rfl rfl (fun _ => rfl) ?_
 refine W_call (f := 33) (args := [.s x1]) rfl rfl rfl rfl (cmp_isNaN_string_ok hS2.good hr3) ?_
 rintro v4 w4 ⟨Fr3, rfl, hT4⟩
 have hS4 := hS2.lent hT4
 refine Nxt.now ?_
 refine W_c rfl rfl rfl rfl (fun _ => rfl) ?_
 refine W_nil ?_
 refine N_code ?_
 refine C_seq ?_
 refine C_seq ?_
 refine C_region rfl ?_
 refine W_c rfl rfl rfl rfl (fun _ => rfl) ?_
 refine W_nil ?_
 refine N_code ?_
 refine C_cond rfl (fun hc5 => ?_) (fun hc5 => ?_)
 ·
  rw [if_t hc5] at H
  refine C_seq ?_
  refine C_seq ?_
  refine C_region rfl ?_
  refine W_c rfl rfl rfl rfl (fun _ => rfl) ?_
  refine W_nil ?_
  refine N_code ?_
  refine C_cond rfl (fun hc6 => ?_) (fun hc6 => ?_)
  ·
   rw [if_t hc6] at H
   refine C_seq ?_
   refine C_region rfl ?_
   refine W_c rfl rfl rfl rfl (fun _ => rfl) ?_
   refine W_nil ?_
   refine N_code ?_
   obtain rfl := Option.some.inj H
   refine C_ret rfl rfl ?_
   exact ⟨F, rfl, hS4⟩
  ·
   rw [if_f hc6] at H
   refine C_skip ?_
   refine N_code ?_
   refine C_seq ?_
   refine C_region rfl ?_
   refine W_c rfl rfl rfl rfl (fun _ => rfl) ?_
   refine W_nil ?_
   refine N_code ?_
   obtain rfl := Option.some.inj H
   refine C_ret rfl rfl ?_
   exact ⟨F, rfl, hS4⟩
 ·
  rw [if_f hc5] at H
  refine C_skip ?_
  refine N_code ?_
  refine C_seq ?_
  refine C_seq ?_
  refine C_region rfl ?_
  refine W_c rfl rfl rfl rfl (fun _ => rfl) ?_
  refine W_nil ?_
  refine N_code ?_
  refine C_cond rfl (fun hc7 => ?_) (fun hc7 => ?_)
  ·
   rw [if_t hc7] at H
   refine C_seq ?_
   refine C_region rfl ?_
   refine W_c rfl rfl rfl rfl (fun _ => rfl) ?_
   refine W_nil ?_
   refine N_code ?_
   obtain rfl := Option.some.inj H
   refine C_ret rfl rfl ?_
   exact ⟨F, rfl, hS4⟩
  ·
   rw [if_f hc7] at H
   refine C_skip ?_
   refine N_code ?_
   refine C_seq ?_
   refine C_seq ?_
   refine C_region rfl ?_
   refine W_c rfl rfl rfl rfl (fun _ => rfl) ?_
   refine W_c rfl rfl rfl rfl (fun _ => rfl) ?_
   refine W_r rfl rfl rfl (O_bin rfl rfl bS_lss) ?_
   refine W_nil ?_
   refine N_code ?_
   refine C_cond rfl (fun hc8 => ?_) (fun hc8 => ?_)
   ·
    rw [if_t hc8] at H
    refine C_seq ?_
    refine C_region rfl ?_
    refine W_c rfl rfl rfl rfl (fun _ => rfl) ?_
    refine W_nil ?_
    refine N_code ?_
    obtain rfl := Option.some.inj H
    refine C_ret rfl rfl ?_
    exact ⟨F, rfl, hS4⟩
   ·
    rw [if_f hc8] at H
    refine C_skip ?_
    refine N_code ?_
    refine C_seq ?_
    refine C_seq ?_
    refine C_region rfl ?_
    refine W_c rfl rfl rfl rfl (fun _ => rfl) ?_
    refine W_c rfl rfl rfl rfl (fun _ => rfl) ?_
    refine W_r rfl rfl rfl (O_bin rfl rfl bS_gtr) ?_
    refine W_nil ?_
    refine N_code ?_
    refine C_cond rfl (fun hc9 => ?_) (fun hc9 => ?_)
    ·
     rw [if_t hc9] at H
     refine C_seq ?_
     refine C_region rfl ?_
     refine W_c rfl rfl rfl rfl (fun _ => rfl) ?_
     refine W_nil ?_
     refine N_code ?_
     obtain rfl := Option.some.inj H
     refine C_ret rfl rfl ?_
     exact ⟨F, rfl, hS4⟩
    ·
     rw [if_f hc9] at H
     refine C_skip ?_
     refine N_code ?_
     refine C_seq ?_
     refine C_region rfl ?_
     refine W_c rfl rfl rfl rfl (fun _ => rfl) ?_
     refine W_nil ?_
     refine N_code ?_
     obtain rfl := Option.some.inj H
     refine C_ret rfl rfl ?_
     exact ⟨F, rfl, hS4⟩

def tree_Sort_2 (x0 : File) (x1 : File) : Option Int :=
  bd (cmp_Compare_string x0.path x1.path) fun r3 =>
  some r3

set_option maxRecDepth 100000 in
theorem tree_Sort_2_ok {K : Tb} {F : Frz} {w : Hp} {x0 : File} {x1 : File} {r : Int} {v0_0 : Val} {v1_0 : Val} (hA : Gd F w) (h0_0 : SlF tB F v0_0 x0.data) (h1_0 : SlF tB F v1_0 x1.data) (H : tree_Sort_2 x0 x1 = some r) : Ret Try.prog K 22 [.agg (File.cells x0 v0_0), .agg (File.cells x1 v1_0)] w fun v w' => ∃ (F' : Frz), v = .i .i64 r ∧ St [] w F F' [] w' := by
 refine Ret_of (args := [.agg (File.cells x0 v0_0), .agg (File.cells x1 v1_0)]) Go.Proofs.Try.func22 rfl (by decide) rfl ?_
 change C _ _ _ _ _ [(0, .agg (File.cells x0 v0_0)), (1, .agg (File.cells x1 v1_0))] _
 have hS := St.start hA
 dsimp only [tree_Sort_2] at H
 refine C_seq ?_
 refine C_region rfl ?_
 refine W_x rfl rfl rfl (E_bx (cs := [.s x0.path, v0_0]) rfl rfl (by simp only [List.all_cons, List.all_nil, List.all_append, h0_0.ln.one]; rfl) hS) ?_
 rintro _ w1 ⟨g1, rfl, hS1⟩
 refine Nxt.now ?_
 refine W_x rfl rfl rfl (E_bx (cs := [.s x1.path, v1_0]) rfl rfl (by simp only [List.all_cons, List.all_nil, List.all_append, h1_0.ln.one]; rfl) hS1) ?_
 rintro _ w2 ⟨g2, rfl, hS2⟩
 refine Nxt.now ?_
 refine W_c rfl rfl rfl rfl (fun _ => rfl) ?_
 refine W_nil ?_
 refine N_code ?_
 refine C_seq ?_
 obtain ⟨r3, hr3, H⟩ := bd_some H
 refine C_region rfl ?_
 refine W_r rfl rfl rfl (O_fldB 0 Ty.field30_0 rfl) ?_
 refine W_r rfl rfl rfl (O_bld1 1 Ty.cell9 rfl hS2 rfl rfl) ?_
 refine W_r rfl rfl rfl (O_fldB 0 Ty.field30_0 rfl) ?_
 refine W_r rfl rfl rfl (O_bld1 0 Ty.cell9 rfl hS2 rfl rfl) ?_
 refine W_call (f := 23) (args := [.s x0.path, .s x1.path]) rfl rfl rfl rfl (cmp_Compare_string_ok hS2.good hr3) ?_
 rintro v4 w4 ⟨Fr3, rfl, hT4⟩
 have hS4 := hS2.lent hT4
 refine Nxt.now ?_
 refine W_c rfl rfl rfl rfl (fun _ => rfl) ?_
 refine W_nil ?_
 refine N_code ?_
 obtain rfl := Option.some.inj H
 refine C_ret rfl rfl ?_
 exact ⟨F, rfl, hS4.pick [] (by decide)⟩

def cellarerkeep_SpoilBytes.l1 (rec4 : (Int × (List UInt8)) → Option (List UInt8)) : (Int × (List UInt8)) → Option (List UInt8)
  | (i2, l3) =>
    if decide (i2 < (l3.length : Int)) then
      bd (ix l3 i2) fun x6 =>
      rec4 (wr (i2 + 1), (l3.set i2.toNat (x6 + (101 : UInt8))))
    else
      some l3

def cellarerkeep_SpoilBytes (x0 : List UInt8) : Option (List UInt8) :=
  loop (cellarerkeep_SpoilBytes.l1) (0, x0)

set_option maxRecDepth 100000 in
theorem cellarerkeep_SpoilBytes_ok {K : Tb} {F : Frz} {w : Hp} {x0 : List UInt8} {r : (List UInt8)} {v0 : Val} (hS : St v0.own w F F [.row tB v0 x0] w) (H : cellarerkeep_SpoilBytes x0 = some r) : Ret Try.prog K 26 [v0] w fun v w' => ∃ (F' : Frz), v = .tup [] ∧ St v0.own w F F' [.row tB v0 (r)] w' := by
 refine Ret_of (args := [v0]) Go.Proofs.Try.func26 rfl (by decide) rfl ?_
 change C _ _ _ _ _ [(0, v0)] _
 dsimp only [cellarerkeep_SpoilBytes] at H
 refine C_seq ?_
 refine C_region rfl ?_
 refine W_c rfl rfl rfl rfl (fun _ => rfl) ?_
 refine W_nil ?_
 refine N_code ?_
 refine C_block ?_
 refine C_loopM (fun (s : Int × (List UInt8)) E wq => ∃ (F1 : Frz), E = [(0, v0), (2, .i .i64 s.1)] ∧ F.le F1 ∧ St v0.own w F F1 [.row tB v0 s.2] wq) H ?_ ?_
 ·
  exact ⟨_, ⟨F, rfl, (Frz.le.refl _), hS⟩, ⟨rfl, rfl, trivial⟩⟩
 ·
  rintro rec4 ⟨i2, l3⟩ E w1 hI H
  try dsimp only at hI
  obtain ⟨F1, rfl, le1, hS1⟩ := hI
  dsimp only [cellarerkeep_SpoilBytes.l1] at H
  refine C_seq ?_
  refine C_seq ?_
  refine C_region rfl ?_
  refine W_c rfl rfl rfl rfl (fun _ => rfl) ?_
  refine W_c rfl rfl rfl rfl (fun _ => rfl) ?_
  refine W_r rfl rfl rfl (O_len Go.Proofs.Try.underlying28 rfl (hS1.rowLn (k := 0) rfl)) ?_
  refine W_r rfl rfl rfl (O_bin rfl rfl bI_lss) ?_
  refine W_nil ?_
  refine N_code ?_
  refine C_cond rfl (fun hc5 => ?_) (fun hc5 => ?_)
  ·
   rw [if_t hc5] at H
   refine C_skip ?_
   refine N_code ?_
   refine C_seq ?_
   refine C_block ?_
   obtain ⟨x6, hx6, H⟩ := bd_some H
   refine C_region rfl ?_
   refine W_c rfl rfl rfl rfl (fun _ => rfl) ?_
   refine W_c rfl rfl rfl rfl (fun _ => rfl) ?_
   refine W_c rfl rfl rfl rfl (fun _ => rfl) ?_
   refine W_c rfl rfl rfl rfl (fun _ => rfl) ?_
   obtain ⟨hp8, hy8⟩ := ix_some hx6
   obtain ⟨cs8, hr8, he8⟩ := hS1.rowAt (k := 0) rfl hy8
   obtain rfl := hr8
   replace he8 : Elf _ _ 1 _ _ := he8
   have hi8 := he8.ixd
   refine W_r rfl rfl rfl (O_ix Go.Proofs.Try.underlying28 Ty.size5 rfl rfl hi8 hp8 rfl) ?_
   refine W_r rfl rfl rfl (O_ld1 0 Ty.cell5 rfl he8 (by omega) rfl) ?_
   refine W_r rfl rfl rfl (O_bin rfl rfl (congrArg (fun z => some (Val.i .u8 z)) (u8_add x6 (101 : UInt8)))) ?_
   refine W_r rfl rfl rfl (O_ix Go.Proofs.Try.underlying28 Ty.size5 rfl rfl hi8 hp8 rfl) ?_
   refine W_xU rfl rfl rfl (E_put (c := [.i .u8 ((x6 + (101 : UInt8)).toNat : Int)]) 0 (i2.toNat) 0 x6 (x6 + (101 : UInt8)) rfl rfl hS1 rfl (ix_some hx6).2 (by first | rfl | (show _ = _ * 1 + _; omega)) rfl Ty.size5 rfl (Nat.le_of_ble_eq_true rfl) (by rintro cs rfl; rfl)) ?_
   rintro _ w9 hS9
   refine Nxt.now ?_
   refine W_nil ?_
   refine N_block ?_
   refine N_code ?_
   refine C_region rfl ?_
   refine W_c rfl rfl rfl rfl (fun _ => rfl) ?_
   refine W_c rfl rfl rfl rfl (fun _ => rfl) ?_
   refine W_c rfl rfl rfl rfl (fun _ => rfl) ?_
   refine W_nil ?_
   exact N_againM (wr (i2 + 1), (l3.set i2.toNat (x6 + (101 : UInt8)))) _ H ⟨F1, rfl, le1, hS9⟩ ⟨rfl, rfl, trivial⟩
  ·
   rw [if_f hc5] at H
   refine C_exit _ rfl ?_
   obtain rfl := Option.some.inj H
   refine N_done rfl rfl ?_
   exact ⟨F1, rfl, hS1⟩

def slices_Clone_api_File_api_File (x0 : List File) : Option (List File) :=
  bd (app (α := File) ([] : List File) x0) fun l6 =>
  some l6

set_option maxRecDepth 100000 in
theorem slices_Clone_api_File_api_File_ok {K : Tb} {F : Frz} {w : Hp} {x0 : List File} {r : (List File)} {v0 : Val} (hA : Gd F w) (h0 : SlF File.t F v0 x0) (H : slices_Clone_api_File_api_File x0 = some r) : Ret Try.prog K 29 [v0] w fun v w' => ∃ (F' : Frz) (q0 : Val), v = q0 ∧ St [] w F F' [.row File.t q0 (r)] w' := by
 refine Ret_of (args := [v0]) Go.Proofs.Try.func29 rfl (by decide) rfl ?_
 change C _ _ _ _ _ [(0, v0)] _
 have hS := St.start hA
 dsimp only [slices_Clone_api_File_api_File] at H
 refine C_seq ?_
 refine C_region rfl ?_
 refine W_c rfl rfl rfl rfl (fun _ => rfl) ?_
 refine W_nil ?_
 refine N_code ?_
 refine C_seq ?_
 refine C_seq ?_
 refine C_region rfl ?_
 refine W_c rfl rfl rfl rfl (fun _ => rfl) ?_
 refine W_nilq rfl rfl rfl rfl Go.Proofs.Try.underlying22 rfl rfl h0.ln ?_
 intro b1 hb1
 refine W_nil ?_
 refine N_code ?_
 refine C_cond rfl (fun hc2 => ?_) (fun hc2 => ?_)
 ·
  have hx2 : x0 = [] := List.eq_nil_of_length_eq_zero (hb1 hc2)
  have H : (some [] : Option (List File)) = some r := by first | (rw [hx2] at H; exact H) | (subst hx2; exact H)
  refine C_seq ?_
  refine C_region rfl ?_
  refine W_c rfl rfl rfl rfl (fun _ => rfl) ?_
  refine W_nil ?_
  refine N_code ?_
  have hS4 := hS.nilRow File.t
  obtain rfl := Option.some.inj H
  refine C_ret rfl rfl ?_
  exact ⟨F, (.sl none 0 (some 0)), rfl, hS4⟩
 ·
  refine C_skip ?_
  refine N_code ?_
  refine C_seq ?_
  obtain ⟨l6, hl6, H⟩ := bd_some H
  refine C_region rfl ?_
  refine W_x rfl rfl rfl (E_bs (t := File.t) (vs := []) (xs := ([] : List File)) Go.Proofs.Try.underlying22 Ty.row30 rfl trivial rfl rfl hS) ?_
  rintro u5 w5 hS5
  refine Nxt.now ?_
  refine W_c rfl rfl rfl rfl (fun _ => rfl) ?_
  refine W_x rfl rfl rfl (E_app (t := File.t) 0 Go.Proofs.Try.underlying22 Ty.row30 Ty.zk22 rfl rfl hS5 rfl (h0.src hS5.agree) hl6) ?_
  rintro v7 w7 hS7
  refine Nxt.now ?_
  refine W_c rfl rfl rfl rfl (fun _ => rfl) ?_
  refine W_nil ?_
  refine N_code ?_
  obtain rfl := Option.some.inj H
  refine C_ret rfl rfl ?_
  exact ⟨F, v7, rfl, hS7⟩

def slices_Clone_byte_byte (x0 : List UInt8) : Option (List UInt8) :=
  bd (app (α := UInt8) ([] : List UInt8) x0) fun l6 =>
  some l6

set_option maxRecDepth 100000 in
theorem slices_Clone_byte_byte_ok {K : Tb} {F : Frz} {w : Hp} {x0 : List UInt8} {r : (List UInt8)} {v0 : Val} (hA : Gd F w) (h0 : SlF tB F v0 x0) (H : slices_Clone_byte_byte x0 = some r) : Ret Try.prog K 30 [v0] w fun v w' => ∃ (F' : Frz) (q0 : Val), v = q0 ∧ St [] w F F' [.row tB q0 (r)] w' := by
 refine Ret_of (args := [v0]) Go.Proofs.Try.func30 rfl (by decide) rfl ?_
 change C _ _ _ _ _ [(0, v0)] _
 have hS := St.start hA
 dsimp only [slices_Clone_byte_byte] at H
 refine C_seq ?_
 refine C_region rfl ?_
 refine W_c rfl rfl rfl rfl (fun _ => rfl) ?_
 refine W_nil ?_
 refine N_code ?_
 refine C_seq ?_
 refine C_seq ?_
 refine C_region rfl ?_
 refine W_c rfl rfl rfl rfl (fun _ => rfl) ?_
 refine W_nilq rfl rfl rfl rfl Go.Proofs.Try.underlying28 rfl rfl h0.ln ?_
 intro b1 hb1
 refine W_nil ?_
 refine N_code ?_
 refine C_cond rfl (fun hc2 => ?_) (fun hc2 => ?_)
 ·
  have hx2 : x0 = [] := List.eq_nil_of_length_eq_zero (hb1 hc2)
  have H : (some [] : Option (List UInt8)) = some r := by first | (rw [hx2] at H; exact H) | (subst hx2; exact H)
  refine C_seq ?_
  refine C_region rfl ?_
  refine W_c rfl rfl rfl rfl (fun _ => rfl) ?_
  refine W_nil ?_
  refine N_code ?_
  have hS4 := hS.nilRow tB
  obtain rfl := Option.some.inj H
  refine C_ret rfl rfl ?_
  exact ⟨F, (.sl none 0 (some 0)), rfl, hS4⟩
 ·
  refine C_skip ?_
  refine N_code ?_
  refine C_seq ?_
  obtain ⟨l6, hl6, H⟩ := bd_some H
  refine C_region rfl ?_
  refine W_x rfl rfl rfl (E_bs (t := tB) (vs := []) (xs := ([] : List UInt8)) Go.Proofs.Try.underlying28 Ty.row5 rfl trivial rfl rfl hS) ?_
  rintro u5 w5 hS5
  refine Nxt.now ?_
  refine W_c rfl rfl rfl rfl (fun _ => rfl) ?_
  refine W_x rfl rfl rfl (E_app (t := tB) 0 Go.Proofs.Try.underlying28 Ty.row5 Ty.zk28 rfl rfl hS5 rfl (h0.src hS5.agree) hl6) ?_
  rintro v7 w7 hS7
  refine Nxt.now ?_
  refine W_c rfl rfl rfl rfl (fun _ => rfl) ?_
  refine W_nil ?_
  refine N_code ?_
  obtain rfl := Option.some.inj H
  refine C_ret rfl rfl ?_
  exact ⟨F, v7, rfl, hS7⟩

def tree_Twin.k1 (l4 : List File) : Option (List File) :=
  some l4


def tree_Twin.l2 (r1 : (List File)) (rec8 : (Int × (List File)) → Option (List File)) : (Int × (List File)) → Option (List File)
  | (i6, l7) =>
    if decide (i6 < (r1.length : Int)) then
      bd (ix l7 i6) fun x10 =>
      bd (slices_Clone_byte_byte x10.data) fun r12 =>
      rec8 (wr (i6 + 1), (l7.set i6.toNat (File.mk x10.path r12)))
    else
      tree_Twin.k1 l7

def tree_Twin (x0 : List File) : Option (List File) :=
  bd (slices_Clone_api_File_api_File x0) fun r1 =>
  loop (tree_Twin.l2 r1) (0, r1)


end
end Go.Wk.Lf
