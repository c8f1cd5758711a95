/- What cdc.Cut and manifest.Build tell, plainly. -/
import Derived.Test.YtoanecpanckkeaaManP
import Derived.Test.YtoanecpanckkeaaLfM1
import Derived.Test.YtoanecpanckkeaaLfS
namespace Go.Wk.Lf
open Go.Shelf Go.Sort Go.Proofs
set_option linter.unusedVariables false
set_option linter.unusedSimpArgs false

/-- the register -/
def regStep (r : UInt32) (c : UInt8) : UInt32 := (r <<< UInt32.ofNat 1) + ((c.toUInt32 + (1 : UInt32)) * (2654435761 : UInt32))
def regHigh (r : UInt32) : Bool := decide (((r >>> UInt32.ofNat 28).toNat : Int) = 0)
def nextGo : UInt32 → Nat → List UInt8 → Nat
  | _, n, [] => n
  | r, n, c :: t => if (decide (64 ≤ n + 1) || (decide (8 ≤ n + 1) && regHigh (regStep r c))) = true then n + 1 else nextGo (regStep r c) (n + 1) t
def nextL (b : List UInt8) : Nat := nextGo 0 0 b
theorem nextGo_le : ∀ (t : List UInt8) (r : UInt32) (n : Nat), n ≤ nextGo r n t ∧ nextGo r n t ≤ n + t.length ∧ (t ≠ [] → n + 1 ≤ nextGo r n t) ∧ (n ≤ 64 → n < 64 ∨ t = [] → nextGo r n t ≤ 64) ∧ (nextGo r n t < n + t.length → 8 ≤ nextGo r n t)
  | [], r, n => by simp [nextGo]
  | c :: t, r, n => by
    obtain ⟨h1, h2, h3, h4, h5⟩ := nextGo_le t (regStep r c) (n + 1)
    simp only [nextGo]
    split
    · rename_i hc
      refine ⟨by omega, by simp only [List.length_cons]; omega, fun _ => Nat.le_refl _, fun _ h => ?_, fun _ => ?_⟩
      · rcases h with h | h
        · omega
        · cases h
      · simp only [Bool.or_eq_true, Bool.and_eq_true, decide_eq_true_eq] at hc; omega
    · rename_i hc
      refine ⟨by omega, by simp; omega, fun _ => by omega, fun hn h => ?_, fun h => h5 (by simp at h; omega)⟩
      have h6 : n + 1 < 64 := by
        simp only [Bool.or_eq_true, decide_eq_true_eq, not_or] at hc; omega
      exact h4 (by omega) (.inl h6)
theorem nextL_pos {b : List UInt8} (h : b ≠ []) : 1 ≤ nextL b := (nextGo_le b 0 0).2.2.1 h
theorem nextL_le (b : List UInt8) : nextL b ≤ b.length := by have := (nextGo_le b 0 0).2.1; rwa [Nat.zero_add] at this
theorem nextL_64 (b : List UInt8) : nextL b ≤ 64 := (nextGo_le b 0 0).2.2.2.1 (by decide) (.inl (by decide))
theorem nextL_8 {b : List UInt8} (h : nextL b < b.length) : 8 ≤ nextL b := (nextGo_le b 0 0).2.2.2.2 (by rw [Nat.zero_add]; exact h)
theorem next_eq (b : List UInt8) (hb : b.length < 4611686018427387904) : cdc_Next b = some (nextL b : Int) := by
  unfold cdc_Next
  refine loop_eq (S := UInt32 × Int) (σ := UInt32) (fun i r => (r, (i : Int))) b.length (fun i r => nextGo r i (b.drop i) = nextL b) _ (i0 := 0) rfl (Nat.zero_le _) rfl hb ?_ ?_
  · intro rec i r hi hI hrec
    simp only [cdc_Next.l2]
    rw [List.drop_eq_getElem_cons hi] at hI
    simp only [nextGo] at hI
    rw [if_t (lt_t hi), ix_lt hi, bd_mk, wr_succ (by omega)]
    have e1 : decide (64 ≤ ((i + 1 : Nat) : Int)) = decide (64 ≤ i + 1) := by rw [decide_eq_decide]; omega
    have e2 : decide (8 ≤ ((i + 1 : Nat) : Int)) = decide (8 ≤ i + 1) := by rw [decide_eq_decide]; omega
    rw [e1, e2]
    show (if (decide (64 ≤ i + 1) || (decide (8 ≤ i + 1) && regHigh (regStep r b[i]))) = true then _ else rec (regStep r b[i], ((i + 1 : Nat) : Int))) = _
    split
    · rename_i hc
      rw [if_pos hc] at hI
      rw [← hI]
    · rename_i hc
      rw [if_neg hc] at hI
      exact hrec _ hI
  · intro rec r hI
    simp only [cdc_Next.l2, cdc_Next.k1]
    rw [if_f (lt_f (Nat.lt_irrefl _))]
    rw [List.drop_length] at hI
    simp only [nextGo] at hI
    rw [← hI]
/-- the chunks -/
def cutL (b : List UInt8) : List (List UInt8) := if h : b = [] then [] else b.take (nextL b) :: cutL (b.drop (nextL b))
termination_by b.length
decreasing_by
  have h1 := nextL_pos h
  have : 0 < b.length := List.length_pos_iff.2 h
  simp only [List.length_drop]; omega
theorem cutL_nil : cutL [] = [] := by unfold cutL; simp
theorem cutL_cons {b : List UInt8} (h : b ≠ []) : cutL b = b.take (nextL b) :: cutL (b.drop (nextL b)) := by rw [cutL, dif_neg h]
theorem len_ind {p : List UInt8 → Prop} (h : ∀ b, (∀ c, c.length < b.length → p c) → p b) (b : List UInt8) : p b := by
  suffices ∀ n, ∀ b : List UInt8, b.length < n → p b from this _ b (Nat.lt_succ_self _)
  intro n
  induction n with
  | zero => intro b hb; omega
  | succ n ih => intro b hb; exact h b fun c hc => ih c (by omega)
theorem cutL_ind {p : List UInt8 → Prop} (h0 : p []) (h1 : ∀ b, b ≠ [] → p (b.drop (nextL b)) → p b) (b : List UInt8) : p b := by
  refine len_ind (fun b ih => ?_) b
  by_cases h : b = []
  · subst h; exact h0
  · refine h1 b h (ih _ ?_)
    have h2 := nextL_pos h
    have : 0 < b.length := List.length_pos_iff.2 h
    simp only [List.length_drop]; omega
theorem cutL_flat (b : List UInt8) : (cutL b).flatten = b := by
  refine cutL_ind (p := fun b => (cutL b).flatten = b) (by rw [cutL_nil]; rfl) (fun b h ih => ?_) b
  rw [cutL_cons h, List.flatten_cons, ih, List.take_append_drop]
theorem cutL_mem (b : List UInt8) : ∀ x ∈ cutL b, 1 ≤ x.length ∧ x.length ≤ 64 := by
  refine cutL_ind (p := fun b => ∀ x ∈ cutL b, 1 ≤ x.length ∧ x.length ≤ 64) (by rw [cutL_nil]; intro x hx; simp at hx) (fun b h ih => ?_) b
  rw [cutL_cons h]
  intro x hx
  rcases List.mem_cons.1 hx with rfl | hx
  · have h1 := nextL_pos h
    have h2 := nextL_64 b
    have h3 := nextL_le b
    simp only [List.length_take]; omega
  · exact ih x hx
theorem cutL_len (b : List UInt8) : 8 * (cutL b).length ≤ b.length + 7 := by
  refine cutL_ind (p := fun b => 8 * (cutL b).length ≤ b.length + 7) (by rw [cutL_nil]; simp) (fun b h ih => ?_) b
  rw [cutL_cons h]
  have h1 := nextL_pos h
  have h3 := nextL_le b
  simp only [List.length_cons, List.length_drop] at ih ⊢
  rcases Nat.lt_or_ge (nextL b) b.length with h4 | h4
  · have := nextL_8 h4; omega
  · have : b.drop (nextL b) = [] := List.drop_eq_nil_of_le h4
    rw [this, cutL_nil]
    have : 0 < b.length := List.length_pos_iff.2 h
    simp only [List.length_nil]; omega
theorem cutL_empty (b : List UInt8) : cutL b = [] ↔ b = [] := by
  constructor
  · intro h
    have := cutL_flat b
    rw [h] at this; exact this.symm
  · rintro rfl; exact cutL_nil
theorem ccut_eq (b : List UInt8) (hb : b.length ≤ 32768) : cdc_Cut b = some (cutL b, 0) := by
  unfold cdc_Cut
  rw [if_neg (by simp; omega)]
  refine loop_const (S := List UInt8 × List (List UInt8)) (fun s => s.1.length ≤ 32768 ∧ s.2.length + s.1.length ≤ 32768 ∧ s.2 ++ cutL s.1 = cutL b) (fun s => s.1.length) ⟨hb, by simpa using hb, rfl⟩ (by show b.length < _; omega) ?_
  rintro rec ⟨q, acc⟩ ⟨h1, h2, h3⟩ hrec
  simp only at h1 h2 h3
  simp only [cdc_Cut.l2, cdc_Cut.k1]
  by_cases hq : q = []
  · subst hq
    rw [if_neg (by simp)]
    rw [cutL_nil, List.append_nil] at h3
    rw [h3]
  · have h4 := nextL_pos hq
    have h5 := nextL_le q
    have h6 : 0 < q.length := List.length_pos_iff.2 hq
    rw [if_pos (by simp; omega), next_eq q (by omega), bd_mk, cut_ok (by omega) (by omega) (by omega), bd_mk, Int.toNat_natCast, Int.toNat_zero, List.drop_zero, cloneB_eq _ (by simp; omega), bd_mk, app_ok (by simp; omega), bd_mk, cut_ok (by omega) (by omega) (by omega), bd_mk, Int.toNat_natCast, Int.toNat_natCast, List.take_length]
    refine hrec _ ⟨by simp; omega, by simp; omega, ?_⟩ (by simp; omega)
    rw [← h3, cutL_cons hq]; simp
/-- chunks, each once by its sum -/
abbrev sha (x : List UInt8) : List UInt8 := Sha.sha256 x
def addC (acc : List (List UInt8)) (x : List UInt8) : List (List UInt8) := if sha x ∈ acc.map sha then acc else acc ++ [x]
def pieces (l : List File) : List (List UInt8) := l.flatMap fun f => cutL f.data
def chunksL (l : List File) : List (List UInt8) := (pieces l).foldl addC []
def partL (f : File) : Part := Part.mk f.path (f.data.length : Int) ((cutL f.data).map sha)
theorem addC_nodup {acc : List (List UInt8)} (h : (acc.map sha).Nodup) (x : List UInt8) : ((addC acc x).map sha).Nodup := by
  unfold addC
  split
  · exact h
  · rename_i hx
    rw [List.map_append, List.nodup_append]
    refine ⟨h, by simp, fun a ha b hb e => ?_⟩
    simp at hb
    subst e; subst hb; exact hx ha
theorem addC_ids (acc : List (List UInt8)) (x y : List UInt8) : y ∈ (addC acc x).map sha ↔ y ∈ acc.map sha ∨ y = sha x := by
  unfold addC
  split
  · rename_i hx
    exact ⟨.inl, fun h => h.elim id fun e => e ▸ hx⟩
  · simp [or_comm]
theorem foldC_ids : ∀ (l acc : List (List UInt8)) (y : List UInt8), y ∈ (l.foldl addC acc).map sha ↔ y ∈ acc.map sha ∨ y ∈ l.map sha
  | [], acc, y => by simp
  | x :: l, acc, y => by rw [List.foldl_cons, foldC_ids l, addC_ids]; simp [or_assoc, eq_comm]
theorem foldC_nodup : ∀ (l acc : List (List UInt8)), (acc.map sha).Nodup → ((l.foldl addC acc).map sha).Nodup
  | [], acc, h => h
  | x :: l, acc, h => foldC_nodup l _ (addC_nodup h x)
theorem foldC_sub : ∀ (l acc : List (List UInt8)) (y : List UInt8), y ∈ l.foldl addC acc → y ∈ acc ∨ y ∈ l
  | [], acc, y, h => .inl h
  | x :: l, acc, y, h => by
    rcases foldC_sub l _ y h with h | h
    · unfold addC at h
      split at h
      · exact .inl h
      · rcases List.mem_append.1 h with h | h
        · exact .inl h
        · simp at h; subst h; exact .inr (by simp)
    · exact .inr (by simp [h])
theorem foldC_len : ∀ (l acc : List (List UInt8)), (l.foldl addC acc).length ≤ acc.length + l.length
  | [], acc => by simp
  | x :: l, acc => by
    have h1 := foldC_len l (addC acc x)
    have h2 : (addC acc x).length ≤ acc.length + 1 := by unfold addC; split <;> simp
    simp only [List.foldl_cons, List.length_cons]; omega
theorem chunks_nodup (l : List File) : ((chunksL l).map sha).Nodup := foldC_nodup _ _ (by simp)
theorem chunks_mem {l : List File} {x : List UInt8} (h : x ∈ chunksL l) : x ∈ pieces l := (foldC_sub _ _ x h).resolve_left (by simp)
theorem chunks_ids (l : List File) (y : List UInt8) : y ∈ (chunksL l).map sha ↔ y ∈ (pieces l).map sha := by
  unfold chunksL; rw [foldC_ids]; simp
theorem rows_uniq {a b : List (List UInt8)} (hp : a.Perm b) (ha : Rise ordRow a) (hb : Rise ordRow b) (hn : (b.map sha).Nodup) : a = b := by
  refine List.Perm.eq_of_pairwise (le := fun x y => ¬ ordRow y x < 0) (fun x y hx hy h3 h4 => ?_) ha hb hp
  have hlt : ∀ p q, ordRow p q < 0 ↔ sLt (sha p) (sha q) = true := fun p q => by
    have := cmpT_lt (sha p) (sha q)
    unfold ltOf at this
    rw [← this]; simp [ordRow]
  rw [hlt, Bool.not_eq_true] at h3 h4
  have he : sha x = sha y := sLt_tri h4 h3
  have hx' : x ∈ b := hp.mem_iff.1 hx
  obtain ⟨i, hi, rfl⟩ := List.getElem_of_mem hx'
  obtain ⟨j, hj, rfl⟩ := List.getElem_of_mem hy
  rw [List.nodup_iff_pairwise_ne, List.pairwise_map, List.pairwise_iff_getElem] at hn
  rcases Nat.lt_trichotomy i j with h | h | h
  · exact absurd he (hn i j hi hj h)
  · subst h; rfl
  · exact absurd he.symm (hn j i hj hi h)
theorem pieces_len {l : List File} (hl : l.length ≤ 6) (hd : ∀ f ∈ l, f.data.length ≤ 200) : (pieces l).length ≤ 150 := by
  have : ∀ l : List File, (∀ f ∈ l, f.data.length ≤ 200) → (pieces l).length ≤ 25 * l.length := by
    intro l
    induction l with
    | nil => intro _; simp [pieces]
    | cons f l ih =>
      intro h
      have h1 := ih fun g hg => h g (by simp [hg])
      have h2 := h f (by simp)
      have h3 := cutL_len f.data
      simp only [pieces, List.flatMap_cons, List.length_append, List.length_cons] at h1 ⊢
      omega
  have := this l hd
  omega
def buildL (name : List UInt8) (l : List File) : Manifest × List (List UInt8) × Int :=
  if nameB name = false then (⟨[], []⟩, [], 1) else if chkL l ≠ 0 then (⟨[], []⟩, [], chkL l) else (⟨name, l.map partL⟩, isort ordRow (chunksL l), 0)
theorem shaSum_one (x : List UInt8) (h : x.length ≤ 1000000) : shaSum [x] = some (sha x) := by
  unfold shaSum
  rw [if_pos ⟨by simp, by simp; omega⟩]; simp [sha]
theorem chkL_ok {l : List File} (h : chkL l = 0) : longB l = false ∧ badB l = false ∧ risesB l := by
  unfold chkL at h
  cases hL : longB l with
  | true => rw [hL] at h; simp at h
  | false =>
    rw [hL] at h
    simp only [Bool.false_eq_true, if_false] at h
    split at h
    · rename_i hc; exact ⟨rfl, hc⟩
    · cases h
/-- the map of those that are there -/
def haveOf (acc : List (List UInt8)) : List UInt8 → Option Bool := fun y => if y ∈ acc.map sha then some true else none
theorem haveOf_add (acc : List (List UInt8)) (x : List UInt8) (h : sha x ∉ acc.map sha) : mput (haveOf acc) (sha x) true = haveOf (acc ++ [x]) := by
  funext y
  simp only [mput, haveOf, List.map_append, List.mem_append, List.map_cons, List.map_nil, List.mem_singleton]
  by_cases hy : y = sha x
  · simp [hy]
  · simp [hy]
theorem build_eq (name : List UInt8) (l : List File) : manifest_Build name l = some (buildL name l) := by
  unfold manifest_Build buildL
  rw [name_eq, bd_mk]
  cases hN : nameB name with
  | false => rfl
  | true =>
    rw [if_neg (by simp), if_neg (show ¬ (true = false) from by simp), check_eq, bd_mk]
    by_cases hC : chkL l = 0
    · rw [if_neg (by simp [hC]), if_neg (show ¬ chkL l ≠ 0 from by simp [hC])]
      obtain ⟨hL, _, _⟩ := chkL_ok hC
      obtain ⟨hl, hd⟩ := long_f hL
      have hpl := pieces_len hl hd
      refine loop_eq (S := List (List UInt8) × Int × (List UInt8 → Option Bool) × List Part) (σ := List (List UInt8)) (fun i acc => (acc, (i : Int), haveOf acc, (l.take i).map partL)) l.length (fun i acc => acc = (pieces (l.take i)).foldl addC []) _ (i0 := 0) (s0 := []) rfl (Nat.zero_le _) rfl (by omega) ?_ ?_
      · intro rec i acc hi hI hrec
        simp only [manifest_Build.l2]
        have hdi := hd _ (List.getElem_mem hi)
        rw [if_t (lt_t hi), ix_lt hi, bd_mk, ccut_eq _ (by omega), bd_mk, if_neg (by simp)]
        have hct := cutL_len l[i].data
        have hpt : (pieces (l.take i)).length ≤ 150 := pieces_len (by simp; omega) fun f hf => hd f (List.mem_of_mem_take hf)
        have hal : acc.length ≤ 150 := by have := foldC_len (pieces (l.take i)) []; rw [← hI] at this; simp at this; omega
        refine loop_eq (S := List (List UInt8) × Int × List (List UInt8) × (List UInt8 → Option Bool)) (σ := List (List UInt8)) (fun j a => (a, (j : Int), ((cutL l[i].data).take j).map sha, haveOf a)) (cutL l[i].data).length (fun j a => a = ((cutL l[i].data).take j).foldl addC acc) _ (i0 := 0) (s0 := acc) rfl (Nat.zero_le _) rfl (by omega) ?_ ?_
        · intro rec2 j a hj hJ hrec2
          simp only [manifest_Build.l5]
          have hx := cutL_mem _ _ (List.getElem_mem hj)
          have ha2 : a.length ≤ 300 := by
            have h7 := foldC_len ((cutL l[i].data).take j) acc
            rw [← hJ, List.length_take] at h7
            have h8 := Nat.min_le_right j (cutL l[i].data).length
            omega
          rw [if_t (lt_t hj), ix_lt hj, bd_mk, shaSum_one _ (by omega), bd_mk, app_ok (by simp; omega), bd_mk]
          have hnext := hrec2 (addC a (cutL l[i].data)[j]) (by rw [take_snoc' hj, List.foldl_append, ← hJ]; rfl)
          rw [take_snoc' hj, List.map_append] at hnext
          by_cases hin : sha (cutL l[i].data)[j] ∈ a.map sha
          · have h1 : (!((haveOf a) (sha (cutL l[i].data)[j])).getD false) = false := by simp only [haveOf, if_pos hin]; rfl
            rw [if_f h1]
            simp only [manifest_Build.k6]
            rw [wr_succ (by omega)]
            simpa [addC, hin] using hnext
          · have h1 : (!((haveOf a) (sha (cutL l[i].data)[j])).getD false) = true := by simp only [haveOf, if_neg hin]; rfl
            rw [if_t h1, app_ok (by simp; omega), bd_mk]
            simp only [manifest_Build.k6]
            rw [wr_succ (by omega), haveOf_add _ _ hin]
            simpa [addC, hin] using hnext
        · intro rec2 a hJ
          simp only [manifest_Build.l5, manifest_Build.k4, manifest_Build.k3]
          rw [if_f (lt_f (Nat.lt_irrefl _)), List.take_length]
          rw [List.take_length] at hJ
          rw [app_ok (by simp; omega), bd_mk, wr_succ (by omega)]
          have := hrec a (by rw [take_snoc' hi]; simp only [pieces, List.flatMap_append, List.flatMap_cons, List.flatMap_nil, List.append_nil, List.foldl_append]; rw [hJ, hI]; rfl)
          rw [take_snoc' hi, List.map_append] at this
          exact this
      · intro rec acc hI
        simp only [manifest_Build.l2, manifest_Build.k1]
        rw [if_f (lt_f (Nat.lt_irrefl _)), List.take_length]
        rw [List.take_length] at hI
        have hch : acc = chunksL l := hI
        have hlim : limRows acc = some () := by
          unfold limRows
          rw [if_pos]
          intro x hx
          rw [hch] at hx
          have := chunks_mem hx
          simp only [pieces, List.mem_flatMap] at this
          obtain ⟨f, _, h2⟩ := this
          have := cutL_mem _ _ h2
          omega
        have hal : acc.length ≤ 150 := by have := foldC_len (pieces l) []; rw [← hI] at this; simp at this; omega
        rw [hlim, bd_mk]
        refine bdS_eq ordRow_swo (by omega) fun l' hp hr => ?_
        rw [rows_uniq (hp.trans (isort_perm ordRow acc).symm) hr (isort_rise ordRow_swo acc) (((isort_perm ordRow acc).map sha).nodup_iff.2 (by rw [hch]; exact chunks_nodup l)), hch]
    · rw [if_pos (by simpa using hC), if_pos hC]
theorem wakes17 : cellarerlaw17_wakes = some true := by
  simp only [cellarerlaw17_wakes, build_eq, bd_mk]
  have h1 : buildL ([97] : List UInt8) [] = (⟨[97], []⟩, [], 0) := by
    unfold buildL
    rw [if_neg (by decide +kernel), if_neg (by decide +kernel)]; rfl
  rw [h1]
  simp only
  rw [mbytes_eq _ (by intro p hp; simp at hp), bd_mk]
  have h2 : manB ⟨([97] : List UInt8), []⟩ := by decide +kernel
  rw [if_pos h2]
  decide +kernel
end Go.Wk.Lf
