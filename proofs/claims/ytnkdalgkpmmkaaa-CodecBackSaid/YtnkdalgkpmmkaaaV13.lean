/- The laws of chapter 1, walked: CodecOne. Conditions: none. -/
import Derived.Test.YtnkdalgkpmmkaaaP1
set_option maxRecDepth 20000
set_option linter.unusedVariables false
set_option linter.unusedSimpArgs false
namespace Go.RV
open Go Go.Proofs

section
variable {M : List Nat} {w0 w w' : World} {A B C D R L : LM}
theorem perm2 : (C ++ (A ++ (B ++ R))).Perm (A ++ (B ++ (C ++ R))) := by
  refine (List.perm_append_comm_assoc C A (B ++ R)).trans (List.Perm.append_left A ?_)
  exact List.perm_append_comm_assoc C B R
theorem perm3 : (D ++ (A ++ (B ++ (C ++ R)))).Perm (A ++ (B ++ (C ++ (D ++ R)))) := by
  refine (List.perm_append_comm_assoc D A _).trans (List.Perm.append_left A ?_)
  exact perm2
theorem Sf.rot2 (h : Sf M w0 w (A ++ (B ++ (C ++ R))) L) : Sf M w0 w (C ++ (A ++ (B ++ R))) L := ⟨h.st.perm (List.Perm.append_right L perm2)⟩
theorem Sf.rot3 (h : Sf M w0 w (A ++ (B ++ (C ++ (D ++ R)))) L) : Sf M w0 w (D ++ (A ++ (B ++ (C ++ R)))) L := ⟨h.st.perm (List.Perm.append_right L perm3)⟩
end
theorem bytesE {bw : Nat} {bs : List UInt8} {L : LM} (hW : Wr bw bs L) {w : World} (hS : St (keys L) w w L) :
    Fc Try.prog 11 [.pointer (some ⟨bw, 0, none⟩)] w fun v w' => ∃ s, v = .string s ∧ s = strY bs ∧ St [] w w' [] :=
  Fc.mono (bytes_c bw bs L hW w hS) fun v w' h => ⟨_, h.1, rfl, h.2⟩

theorem codecOne_c (s : List UInt8) (a b : Int) (ha : 0 ≤ a ∧ a ≤ 4294967295) (hb : 0 ≤ b ∧ b ≤ 4294967295) (w : World) :
    Fc Try.prog 4 [.string (strY s), .int .u32 a, .int .u32 b] w fun v w' => v = .bool true ∧ St [] w w' [] := by
  refine fc_i TB_ok Try.func4 rfl (by kernel_rfl) ?_
  have hS := Sf.refl w
  have hsz := strY_size s
  repeat ((conv => whnf); first | (refine nw_f hS ?_; intro b w1 hS))
  refine br_i (fun h0 => ?_) (fun h0 => ?_)
  · repeat ((conv => whnf); first | (refine nw_f hS ?_; intro b w1 hS) | (refine as_i hS ?_) | (refine bar_f hS ?_) | (refine drawf TB_ok rfl (by kernel_rfl) (by kernel_rfl) hS (List.Sublist.refl _) (List.Sublist.refl _) ?_; intro w1 hS) | (refine br_t (by assumption) ?_) | (refine br_f (by assumption) ?_) | (apply q_i; focus (intro w1 hS; (conv => whnf); first | exact ⟨rfl, rfl⟩)))
    refine fc_m (awake_c _) ?_
    rintro v w2 ⟨rfl, hS'⟩
    replace hS := hS.call0 hS'
    repeat ((conv => whnf); first | (refine nw_f hS ?_; intro b w1 hS) | (refine as_i hS ?_) | (refine bar_f hS ?_) | (refine drawf TB_ok rfl (by kernel_rfl) (by kernel_rfl) hS (List.Sublist.refl _) (List.Sublist.refl _) ?_; intro w1 hS) | (refine br_t (by assumption) ?_) | (refine br_f (by assumption) ?_) | (apply q_i; focus (intro w1 hS; (conv => whnf); first | exact ⟨rfl, rfl⟩)))
    exact ⟨rfl, hS.nil⟩
  have hs300 : s.length ≤ 300 := by have := of_decide_eq_false h0; omega
  repeat ((conv => whnf); first | (refine nw_f hS ?_; intro b w1 hS))
  refine fc_m (read_c s _) ?_
  rintro v w1 ⟨br, rfl, hS'⟩
  replace hS := hS.callF hS'
  repeat ((conv => whnf); first | (refine nw_f hS ?_; intro b w1 hS))
  refine fc_m (rvarR_c br ⟨s, 0⟩ _ hS.ownF) ?_
  rintro v w2 ⟨rfl, hS'⟩
  replace hS := hS.callW hS'
  have hone := @varR_one s
  have hbd := varR_bound ⟨s, 0⟩
  generalize varR ⟨s, 0⟩ = r at *
  (conv => whnf)
  refine nw_f hS ?_; intro b1 w1 hS
  (conv => whnf)
  refine nw_f hS ?_; intro b2 w1 hS
  (conv => whnf)
  refine nw_f hS ?_; intro b3 w1 hS
  replace hS : Sf [] w _ ([(b1, Obj.cells #[.slice none 0 0] 28 (0, 0))] ++ ([(b2, Obj.cells #[.slice none 0 0] 28 (0, 0))] ++ ([(b3, Obj.cells #[.slice none 0 0] 28 (0, 0))] ++ ([(br, rdO r.2)] ++ [])))) [] := ⟨hS.st.perm (by
    exact ((List.perm_append_comm (l₁ := [(br, rdO r.2)])).trans (List.Perm.append_right [(br, rdO r.2)] (List.reverse_perm [(b1, Obj.cells #[.slice none 0 0] 28 (0, 0)), (b2, Obj.cells #[.slice none 0 0] 28 (0, 0)), (b3, Obj.cells #[.slice none 0 0] 28 (0, 0))]))).symm)⟩
  repeat ((conv => whnf); first | (refine nw_f hS ?_; intro b w1 hS) | (refine as_i hS ?_) | (refine bar_f hS ?_) | (refine drawf TB_ok rfl (by kernel_rfl) (by kernel_rfl) hS (List.Sublist.refl _) (List.Sublist.refl _) ?_; intro w1 hS) | (refine br_t (by assumption) ?_) | (refine br_f (by assumption) ?_) | (apply q_i; focus (intro w1 hS; (conv => whnf); first | exact ⟨rfl, rfl⟩)))
  refine fc_m (wvar_c b1 [] _ (Wr.new b1) r.1 hbd.1 hbd.2 _ hS.ownF (by decide)) ?_
  rintro v w3 ⟨L1, hW1, hS'⟩
  replace hS := hS.callW hS'
  rw [List.nil_append] at hW1
  replace hS := hS.rot3
  repeat ((conv => whnf); first | (refine nw_f hS ?_; intro b w1 hS) | (refine as_i hS ?_) | (refine bar_f hS ?_) | (refine drawf TB_ok rfl (by kernel_rfl) (by kernel_rfl) hS (List.Sublist.refl _) (List.Sublist.refl _) ?_; intro w1 hS) | (refine br_t (by assumption) ?_) | (refine br_f (by assumption) ?_) | (apply q_i; focus (intro w1 hS; (conv => whnf); first | exact ⟨rfl, rfl⟩)))
  refine fc_m (rerr_c br r.2 _ hS.ownF) ?_
  rintro v w4 ⟨rfl, hS'⟩
  replace hS := hS.call0 hS'
  replace hS := hS.rot
  refine br_i (fun he => ?c1) (fun he => ?c2)
  case' c1 =>
    have h1 := hone (by simpa using he)
    have hl1 : (varD r.1).length + r.2.rest.length = s.length := by rw [← h1, List.length_append]
    repeat ((conv => whnf); first | (refine nw_f hS ?_; intro b w1 hS) | (refine as_i hS ?_) | (refine bar_f hS ?_) | (refine drawf TB_ok rfl (by kernel_rfl) (by kernel_rfl) hS (List.Sublist.refl _) (List.Sublist.refl _) ?_; intro w1 hS) | (refine br_t (by assumption) ?_) | (refine br_f (by assumption) ?_) | (apply q_i; focus (intro w1 hS; (conv => whnf); first | exact ⟨rfl, rfl⟩)))
    refine fc_m (bytesE hW1 hS.ownF) ?_
    rintro v w5 ⟨s1, rfl, hs1, hS'⟩
    replace hS := hS.call0 hS'
    have hsz1 : s1.size = (varD r.1).length := by rw [hs1, strY_size]
    repeat ((conv => whnf); first | (refine nw_f hS ?_; intro b w1 hS) | (refine as_i hS ?_) | (refine bar_f hS ?_) | (refine drawf TB_ok rfl (by kernel_rfl) (by kernel_rfl) hS (List.Sublist.refl _) (List.Sublist.refl _) ?_; intro w1 hS) | (refine br_t (by assumption) ?_) | (refine br_f (by assumption) ?_) | (apply q_i; focus (intro w1 hS; (conv => whnf); first | exact ⟨rfl, rfl⟩)))
    refine fc_m (rrest_c br r.2 _ hS.rot.ownF) ?_
    rintro v w6 ⟨rfl, hS'⟩
    replace hS := hS.call0 hS'
    have hsz2 : (strY r.2.rest).size = r.2.rest.length := strY_size r.2.rest
    have hq : (!streq (s1 ++ strY r.2.rest) (strY s)) = false := by rw [hs1, strY_append, h1, streq_strY]; simp
    repeat ((conv => whnf); first | (refine nw_f hS ?_; intro b w1 hS) | (refine as_i hS ?_) | (refine bar_f hS ?_) | (refine .mk (by show s1.size + (strY r.2.rest).size ≤ _; omega) ?_) | (refine drawf TB_ok rfl (by kernel_rfl) (by kernel_rfl) hS (List.Sublist.refl _) (List.Sublist.refl _) ?_; intro w1 hS) | (refine br_t (by assumption) ?_) | (refine br_f (by assumption) ?_) | (apply q_i; focus (intro w1 hS; (conv => whnf); first | exact ⟨rfl, rfl⟩ | ((refine .mk (by show s1.size + (strY r.2.rest).size ≤ _; omega) ?_); (conv => whnf); exact ⟨rfl, rfl⟩))))
  case' c2 =>
    repeat ((conv => whnf); first | (refine nw_f hS ?_; intro b w1 hS) | (refine as_i hS ?_) | (refine bar_f hS ?_) | (refine drawf TB_ok rfl (by kernel_rfl) (by kernel_rfl) hS (List.Sublist.refl _) (List.Sublist.refl _) ?_; intro w1 hS) | (refine br_t (by assumption) ?_) | (refine br_f (by assumption) ?_) | (apply q_i; focus (intro w1 hS; (conv => whnf); first | exact ⟨rfl, rfl⟩)))
  all_goals
    refine fc_m (wvar_c b2 [] _ (Wr.new b2) a ha.1 ha.2 _ hS.rot2.ownF (by decide)) ?_
    rintro v w7 ⟨L2, hW2, hS'⟩
    replace hS := hS.rot2.callW hS'
    rw [List.nil_append] at hW2
    repeat ((conv => whnf); first | (refine nw_f hS ?_; intro b w1 hS) | (refine as_i hS ?_) | (refine bar_f hS ?_) | (refine drawf TB_ok rfl (by kernel_rfl) (by kernel_rfl) hS (List.Sublist.refl _) (List.Sublist.refl _) ?_; intro w1 hS) | (refine br_t (by assumption) ?_) | (refine br_f (by assumption) ?_) | (apply q_i; focus (intro w1 hS; (conv => whnf); first | exact ⟨rfl, rfl⟩)))
    refine fc_m (wvar_c b3 [] _ (Wr.new b3) b hb.1 hb.2 _ hS.rot3.ownF (by decide)) ?_
    rintro v w8 ⟨L3, hW3, hS'⟩
    replace hS := hS.rot3.callW hS'
    rw [List.nil_append] at hW3
    repeat ((conv => whnf); first | (refine nw_f hS ?_; intro b w1 hS) | (refine as_i hS ?_) | (refine bar_f hS ?_) | (refine drawf TB_ok rfl (by kernel_rfl) (by kernel_rfl) hS (List.Sublist.refl _) (List.Sublist.refl _) ?_; intro w1 hS) | (refine br_t (by assumption) ?_) | (refine br_f (by assumption) ?_) | (apply q_i; focus (intro w1 hS; (conv => whnf); first | exact ⟨rfl, rfl⟩)))
    have hmono : a ≤ b → (varD a).length ≤ (varD b).length := fun h => varF_mono 5 h
    have hpos := varF_pos 5 a
    have hle5 := varD_le ha.2
    change 1 ≤ (varD a).length at hpos
    refine br_i (fun hab => ?_) (fun hab => ?_)
    repeat ((conv => whnf); first | (refine nw_f hS ?_; intro b w1 hS) | (refine as_i hS ?_) | (refine bar_f hS ?_) | (refine drawf TB_ok rfl (by kernel_rfl) (by kernel_rfl) hS (List.Sublist.refl _) (List.Sublist.refl _) ?_; intro w1 hS) | (refine br_t (by assumption) ?_) | (refine br_f (by assumption) ?_) | (apply q_i; focus (intro w1 hS; (conv => whnf); first | exact ⟨rfl, rfl⟩)))
    rotate_left
    have hab' : a ≤ b := by have := of_decide_eq_false hab; omega
    have := hmono hab'
    repeat ((conv => whnf); first | (refine nw_f hS ?_; intro b w1 hS) | (refine as_i hS ?_) | (refine bar_f hS ?_) | (refine drawf TB_ok rfl (by kernel_rfl) (by kernel_rfl) hS (List.Sublist.refl _) (List.Sublist.refl _) ?_; intro w1 hS) | (refine br_t (by assumption) ?_) | (refine br_f (by assumption) ?_) | (apply q_i; focus (intro w1 hS; (conv => whnf); first | exact ⟨rfl, rfl⟩)))
    refine fc_m (bytesE hW2 hS.rot.ownF) ?_
    rintro v w9 ⟨s1, rfl, hs1, hS'⟩
    replace hS := hS.call0 hS'
    have zs1 : s1.size = (varD a).length := by rw [hs1, strY_size]
    repeat ((conv => whnf); first | (refine nw_f hS ?_; intro b w1 hS) | (refine as_i hS ?_) | (refine bar_f hS ?_) | (refine drawf TB_ok rfl (by kernel_rfl) (by kernel_rfl) hS (List.Sublist.refl _) (List.Sublist.refl _) ?_; intro w1 hS) | (refine br_t (by assumption) ?_) | (refine br_f (by assumption) ?_) | (apply q_i; focus (intro w1 hS; (conv => whnf); first | exact ⟨rfl, rfl⟩)))
    refine fc_m (bytesE hW3 hS.ownF) ?_
    rintro v w10 ⟨s2, rfl, hs2, hS'⟩
    replace hS := hS.call0 hS'
    have zs2 : s2.size = (varD b).length := by rw [hs2, strY_size]
    have hle : decide ((s1.size : Int) ≤ (s2.size : Int)) = true := decide_eq_true (by omega)
    repeat ((conv => whnf); first | (refine nw_f hS ?_; intro b w1 hS) | (refine as_i hS ?_) | (refine bar_f hS ?_) | (refine drawf TB_ok rfl (by kernel_rfl) (by kernel_rfl) hS (List.Sublist.refl _) (List.Sublist.refl _) ?_; intro w1 hS) | (refine br_t (by assumption) ?_) | (refine br_f (by assumption) ?_) | (apply q_i; focus (intro w1 hS; (conv => whnf); first | exact ⟨rfl, rfl⟩)))
    all_goals
      repeat ((conv => whnf); first | (refine nw_f hS ?_; intro b w1 hS) | (refine as_i hS ?_) | (refine bar_f hS ?_) | (refine drawf TB_ok rfl (by kernel_rfl) (by kernel_rfl) hS (List.Sublist.refl _) (List.Sublist.refl _) ?_; intro w1 hS) | (refine br_t (by assumption) ?_) | (refine br_f (by assumption) ?_) | (apply q_i; focus (intro w1 hS; (conv => whnf); first | exact ⟨rfl, rfl⟩)))
      refine fc_m (bytesE hW2 hS.rot.ownF) ?_
      rintro v w11 ⟨s3, rfl, hs3, hS'⟩
      replace hS := hS.call0 hS'
      have zs3 : s3.size = (varD a).length := by rw [hs3, strY_size]
      repeat ((conv => whnf); first | (refine nw_f hS ?_; intro b w1 hS) | (refine as_i hS ?_) | (refine bar_f hS ?_) | (refine drawf TB_ok rfl (by kernel_rfl) (by kernel_rfl) hS (List.Sublist.refl _) (List.Sublist.refl _) ?_; intro w1 hS) | (refine br_t (by assumption) ?_) | (refine br_f (by assumption) ?_) | (apply q_i; focus (intro w1 hS; (conv => whnf); first | exact ⟨rfl, rfl⟩)))
      refine fc_m (bytesE hW3 hS.ownF) ?_
      rintro v w12 ⟨s4, rfl, hs4, hS'⟩
      replace hS := hS.call0 hS'
      have zs4 : s4.size = (varD b).length := by rw [hs4, strY_size]
      have heq : ((a == b) == streq s3 s4) = true := by
        rw [hs3, hs4, streq_strY]
        by_cases e : a = b
        · subst e; simp
        · have : varD a ≠ varD b := fun h => e (varD_inj ha hb h)
          simp [e, this]
      repeat ((conv => whnf); first | (refine nw_f hS ?_; intro b w1 hS) | (refine as_i hS ?_) | (refine bar_f hS ?_) | (refine drawf TB_ok rfl (by kernel_rfl) (by kernel_rfl) hS (List.Sublist.refl _) (List.Sublist.refl _) ?_; intro w1 hS) | (refine br_t (by assumption) ?_) | (refine br_f (by assumption) ?_) | (apply q_i; focus (intro w1 hS; (conv => whnf); first | exact ⟨rfl, rfl⟩)))
      refine fc_m (bytesE hW2 hS.rot.ownF) ?_
      rintro v w13 ⟨s5, rfl, hs5, hS'⟩
      replace hS := hS.call0 hS'
      have zs5 : s5.size = (varD a).length := by rw [hs5, strY_size]
      have hg : decide ((s5.size : Int) ≥ 1) = true := decide_eq_true (by omega)
      repeat ((conv => whnf); first | (refine nw_f hS ?_; intro b w1 hS) | (refine as_i hS ?_) | (refine bar_f hS ?_) | (refine drawf TB_ok rfl (by kernel_rfl) (by kernel_rfl) hS (List.Sublist.refl _) (List.Sublist.refl _) ?_; intro w1 hS) | (refine br_t (by assumption) ?_) | (refine br_f (by assumption) ?_) | (apply q_i; focus (intro w1 hS; (conv => whnf); first | exact ⟨rfl, rfl⟩)))
      refine fc_m (bytesE hW2 hS.rot.ownF) ?_
      rintro v w14 ⟨s6, rfl, hs6, hS'⟩
      replace hS := hS.call0 hS'
      have zs6 : s6.size = (varD a).length := by rw [hs6, strY_size]
      have hg' : decide ((s6.size : Int) ≤ 5) = true := decide_eq_true (by omega)
      repeat ((conv => whnf); first | (refine nw_f hS ?_; intro b w1 hS) | (refine as_i hS ?_) | (refine bar_f hS ?_) | (refine drawf TB_ok rfl (by kernel_rfl) (by kernel_rfl) hS (List.Sublist.refl _) (List.Sublist.refl _) ?_; intro w1 hS) | (refine br_t (by assumption) ?_) | (refine br_f (by assumption) ?_) | (apply q_i; focus (intro w1 hS; (conv => whnf); first | exact ⟨rfl, rfl⟩)))
      refine fc_m (awake_c _) ?_
      rintro v w15 ⟨rfl, hS'⟩
      replace hS := hS.call0 hS'
      repeat ((conv => whnf); first | (refine nw_f hS ?_; intro b w1 hS) | (refine as_i hS ?_) | (refine bar_f hS ?_) | (refine drawf TB_ok rfl (by kernel_rfl) (by kernel_rfl) hS (List.Sublist.refl _) (List.Sublist.refl _) ?_; intro w1 hS) | (refine br_t (by assumption) ?_) | (refine br_f (by assumption) ?_) | (apply q_i; focus (intro w1 hS; (conv => whnf); first | exact ⟨rfl, rfl⟩)))
      exact ⟨rfl, hS.nil⟩
end Go.RV
