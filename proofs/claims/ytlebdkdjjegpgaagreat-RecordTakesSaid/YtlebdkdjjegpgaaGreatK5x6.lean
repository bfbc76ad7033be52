/- Texts of mine, packed for a claim (bundle.py). Conditions: none. -/
import Derived.Test.YtlebdkdjjegpgaaGreatK5x5
set_option maxRecDepth 20000
set_option linter.unusedVariables false
set_option linter.unusedSimpArgs false
namespace Go.RV
open Go Go.Proofs Go.RowKit

theorem bodyR1 {k : Int} (s : RS) (hk : k = 1) : bodyR k s = (aftW 1 s, { zeroRx k with r := numW 1 s }) := by
  unfold bodyR
  rw [if_pos hk]
theorem bodyR2 {k : Int} (s : RS) (hk : k = 2) : bodyR k s = (aftW 4 (aftW 4 (aftW 4 s)), { zeroRx k with n0 := numW 4 s, n1 := numW 4 (aftW 4 s), n2 := numW 4 (aftW 4 (aftW 4 s)) }) := by
  unfold bodyR
  rw [if_neg (by omega), if_pos hk]
theorem bodyR3 {k : Int} (s : RS) (hk : k = 3) : bodyR k s = (aftW 4 (aftW 4 (aftW 1 s)), { zeroRx k with rk := numW 1 s, ra := numW 4 (aftW 1 s), rq := numW 4 (aftW 4 (aftW 1 s)) }) := by
  unfold bodyR
  rw [if_neg (by omega), if_neg (by omega), if_pos hk]
theorem bodyR4 {k : Int} (s : RS) (hk : k = 4) : bodyR k s = ((regR (pthR s).1).1, { zeroRx k with p := (pthR s).2, f := (regR (pthR s).1).2.1, xs := (regR (pthR s).1).2.2 }) := by
  unfold bodyR
  rw [if_neg (by omega), if_neg (by omega), if_neg (by omega), if_pos hk]
theorem bodyR5 {k : Int} (s : RS) (hk : k = 5) : bodyR k s = ((verR (pthR s).1).1, { zeroRx k with p := (pthR s).2, vi := (verR (pthR s).1).2.1, vt := (verR (pthR s).1).2.2.1, vc := (verR (pthR s).1).2.2.2.1, v := (verR (pthR s).1).2.2.2.2 }) := by
  unfold bodyR
  rw [if_neg (by omega), if_neg (by omega), if_neg (by omega), if_neg (by omega), if_pos hk]
theorem bodyR6 {k : Int} (s : RS) (hk : k = 6) : bodyR k s = (aftW 4 s, { zeroRx k with vi := numW 4 s }) := by
  unfold bodyR
  rw [if_neg (by omega), if_neg (by omega), if_neg (by omega), if_neg (by omega), if_neg (by omega), if_pos hk]
theorem bodyR7 {k : Int} (s : RS) (hk : k = 7) : bodyR k s = ((chkR s).1, { zeroRx k with ci := (chkR s).2.1, cb := (chkR s).2.2.1, cr := (chkR s).2.2.2.1, cs := (chkR s).2.2.2.2 }) := by
  unfold bodyR
  rw [if_neg (by omega), if_neg (by omega), if_neg (by omega), if_neg (by omega), if_neg (by omega), if_neg (by omega), if_pos hk]
theorem bodyR8 {k : Int} (s : RS) (hk : k = 8) : bodyR k s = ((vecR (pthR (aftW 1 s)).1).1, { zeroRx k with r := numW 1 s, p := (pthR (aftW 1 s)).2, g := (vecR (pthR (aftW 1 s)).1).2 }) := by
  unfold bodyR
  rw [if_neg (by omega), if_neg (by omega), if_neg (by omega), if_neg (by omega), if_neg (by omega), if_neg (by omega), if_neg (by omega), if_pos hk]
theorem bodyR9 {k : Int} (s : RS) (hk : k ≠ 1 ∧ k ≠ 2 ∧ k ≠ 3 ∧ k ≠ 4 ∧ k ≠ 5 ∧ k ≠ 6 ∧ k ≠ 7 ∧ k ≠ 8) : bodyR k s = (if s.e ≠ 0 then s else ⟨[], 4⟩, zeroRx k) := by
  unfold bodyR
  rw [if_neg (by omega), if_neg (by omega), if_neg (by omega), if_neg (by omega), if_neg (by omega), if_neg (by omega), if_neg (by omega), if_neg (by omega)]
theorem regR_err {s : RS} (h : s.e ≠ 0) : (regR s).1 = s := by
  unfold regR
  rw [numW_err (by rw [vecR_err h]; exact h), aftW_err (by rw [vecR_err h]; exact h), vecR_err h]
  rfl
theorem verR_err {s : RS} (h : s.e ≠ 0) : (verR s).1.e = s.e := by
  unfold verR
  rw [aftW_err h, aftW_err h, aftW_err h]
  exact vaR_err h
theorem mem_none (x : Rx) (w : World) (hx : x.xs = []) (hv : x.v = zeroVa) : MemR w x noHd [] := ⟨hx, ⟨.inl rfl, fun m hm => nomatch hm⟩, .inl (by rw [hv]; rfl)⟩
def recN (k : Int) (f : Nat → Int) : Rx := { zeroRx k with n0 := f 0, n1 := f 1, n2 := f 2 }
theorem recN_set (k : Int) (f : Nat → Int) (h : Hd) {i : Nat} (hi : i < 3) (y : Int) : (recL (recN k f) h).set (2 + i) (.int .u32 y) = recL (recN k (upd f i y)) h := by
  rcases (show i = 0 ∨ i = 1 ∨ i = 2 by omega) with rfl | rfl | rfl <;> rfl
theorem stn_f {P : Program} {M : List Nat} {w0 w : World} {F L : LM} {b off : Nat} {k : Int} {f : Nat → Int} {h : Hd} {e : TypeId} {i : Nat} {y : Int} {K : World → Prop} (hS : Sf M w0 w F L) (j : Nat) (hk : L[j]? = some (b, .cells (recL (recN k f) h).toArray e (0, 0))) (hi : i < 3) (ho : off = 2 + i)
    (hh : setLK L j (b, .cells (recL (recN k (upd f i y)) h).toArray e (0, 0)) fun L' => ∀ w', Sf M w0 w' F L' → K w') : StN P w ⟨b, off, none⟩ [.int .u32 y] K := by
  subst ho
  refine stN_f hS j hk (lo := 0) (hi := 0) (by show 2 + i < (recL (recN k f) h).length; rw [recL_len]; omega) (by simp) rfl (setK_i ?_)
  rw [show (recL (recN k f) h).toArray.toList.set (2 + i) (Value.int .u32 y) = recL (recN k (upd f i y)) h from recN_set k f h hi y]
  exact hh
/-- three numbers, one behind the other -/
def tri (s : RS) : Nat → RS × (Nat → Int)
  | 0 => (s, zeroF)
  | i+1 => (aftW 4 (tri s i).1, upd (tri s i).2 i (numW 4 (tri s i).1))
theorem tri_stick {s : RS} {i : Nat} (h : (tri s i).1.e ≠ 0) : ∀ j, (tri s (i + j)).1 = (tri s i).1
  | 0 => rfl
  | j+1 => by
    have ih := tri_stick h j
    rw [← Nat.add_assoc, tri]
    simp only
    rw [ih, aftW_err h]
set_option maxHeartbeats 8000000 in
theorem record18_c (br : Nat) (s : RS) (w : World) (hS : St [br] w w [(br, rdO s)]) :
    Fp Tryz.prog 30 [rdV br] w (fun v w' => (oneR s).1.e = 0 ∧ ∃ h ms Lv, (∀ w'', Holds w'' Lv → MemR w'' (oneR s).2 h ms) ∧ v = recV (oneR s).2 h ∧ St [br] w w' ([(br, rdO (oneR s).1)] ++ Lv))
      (fun c w' => (oneR s).1.e ≠ 0 ∧ c = [wrongE (oneR s).1.e] ∧ St [br] w w' []) := by
  have q8 : ∀ s, IntKind.u8.wrap (numW 1 s) = numW 1 s := fun s => wrap_u8 (numW_lt 1 s).1 (by have := (numW_lt 1 s).2; omega)
  have q64 : ∀ s, IntKind.i64.wrap (numW 4 s) = numW 4 s := fun s => wrap_i64 (by have := (numW_lt 4 s).1; omega) (by have := (numW_lt 4 s).2; omega)
  refine fp_i TB_ok Tryz.func30 rfl (by kernel_rfl) ?_
  have hS : Sf [br] w w ([(br, rdO s)] ++ []) [] := ⟨hS⟩
  repeat ((conv => whnf); first | (apply q_i; focus (intro w1 hS; (conv => whnf); first | exact ⟨rfl, rfl⟩ | ((first | refine ld_f hS 0 rfl rfl ?_ | refine ld_f hS 1 rfl rfl ?_ | refine ldA_f hS 0 rfl rfl ?_ | refine ldA_f hS 1 rfl rfl ?_); (conv => whnf); exact ⟨rfl, rfl⟩) | ((refine ldN_f hS 1 rfl (lb9 rfl) ?_); (conv => whnf); exact ⟨rfl, rfl⟩))) | (refine nw_f hS ?_; intro b w1 hS) | refine as_i hS ?_ | refine as_i (hS.subs (List.nil_sublist _) sb9) ?_ | refine as_i (hS.subs (List.Sublist.refl _) sb9) ?_ | refine bar_f hS ?_ | refine ld_f hS 0 rfl rfl ?_ | refine ld_f hS 1 rfl rfl ?_ | refine ldA_f hS 0 rfl rfl ?_ | refine ldA_f hS 1 rfl rfl ?_ | ((first | refine stN_f hS 0 rfl (lb9 rfl) rfl rfl ?_ | refine stN_f hS 1 rfl (lb9 rfl) rfl rfl ?_ | refine stM_f hS 0 rfl (lb9 rfl) rfl ?_ | refine stM_f hS 1 rfl (lb9 rfl) rfl ?_); (conv => whnf); intro w1 hS) | refine ldN_f hS 1 rfl (lb9 rfl) ?_ | (refine dr9 hS ?_; intro w1 hS) | refine br_t (by assumption) ?_ | refine br_f (by assumption) ?_)
  refine fp_p (number_c 1 (.inl rfl) br s _ hS.ownF) ?_ ?_
  rotate_left
  · rintro c w2 ⟨he, rfl, hS'⟩
    (conv => whnf)
    have h0 : numW 1 s = 0 := by
      have := fixedR_e (s := s) (n := 1) he
      unfold numW
      have e1 : (fixedR s ((1 : Nat) : Int)).1 = [] := this
      rw [e1]
      rfl
    have ep : (oneR s).1 = aftW 1 s := by
      unfold oneR
      rw [bodyR9 _ (by rw [h0]; decide), if_pos he]
    rw [ep]
    exact ⟨rfl, he, rfl, (hS.callW hS').nil⟩
  rintro v w2 ⟨he, rfl, hS'⟩
  replace hS := hS.callW hS'
  have hq8 := q8 s
  have h1 : oneR s = bodyR (numW 1 s) (aftW 1 s) := rfl
  rw [h1]
  clear h1
  generalize numW 1 s = q at *
  generalize aftW 1 s = s1 at *
  obtain ⟨k, hk8⟩ : ∃ k, k = IntKind.u8.wrap q := ⟨_, rfl⟩
  rw [hq8] at hk8
  subst hk8
  rcases kinds k with hk | hk | hk | hk | hk | hk | hk | hk | hk
  · rw [bodyR1 _ hk]
    have g1 : (IntKind.u8.wrap k == 1) = true := by rw [hq8]; rw [hk]; rfl
    have g2 : (IntKind.u8.wrap k == 2) = false := by rw [hq8]; rw [hk]; rfl
    have g3 : (IntKind.u8.wrap k == 3) = false := by rw [hq8]; rw [hk]; rfl
    have g4 : (IntKind.u8.wrap k == 4) = false := by rw [hq8]; rw [hk]; rfl
    have g5 : (IntKind.u8.wrap k == 5) = false := by rw [hq8]; rw [hk]; rfl
    have g6 : (IntKind.u8.wrap k == 6) = false := by rw [hq8]; rw [hk]; rfl
    have g7 : (IntKind.u8.wrap k == 7) = false := by rw [hq8]; rw [hk]; rfl
    have g8 : (IntKind.u8.wrap k == 8) = false := by rw [hq8]; rw [hk]; rfl
    repeat ((conv => whnf); first | (apply q_i; focus (intro w1 hS; (conv => whnf); first | exact ⟨rfl, rfl⟩ | ((first | refine ld_f hS 0 rfl rfl ?_ | refine ld_f hS 1 rfl rfl ?_ | refine ld_f hS 2 rfl rfl ?_ | refine ldA_f hS 0 rfl rfl ?_ | refine ldA_f hS 1 rfl rfl ?_ | refine ldA_f hS 2 rfl rfl ?_); (conv => whnf); exact ⟨rfl, rfl⟩) | ((refine ldN_f hS 0 rfl (lb9 rfl) ?_); (conv => whnf); exact ⟨rfl, rfl⟩) | ((refine ldN_f hS 1 rfl (lb9 rfl) ?_); (conv => whnf); exact ⟨rfl, rfl⟩) | ((refine ldN_f hS 2 rfl (lb9 rfl) ?_); (conv => whnf); exact ⟨rfl, rfl⟩) | ((refine br_t (by assumption) ?_); (conv => whnf); exact ⟨rfl, rfl⟩) | ((refine br_f (by assumption) ?_); (conv => whnf); exact ⟨rfl, rfl⟩))) | (refine nw_f hS ?_; intro b w1 hS) | refine as_i hS ?_ | refine as_i (hS.subs (List.nil_sublist _) sb9) ?_ | refine as_i (hS.subs (List.Sublist.refl _) sb9) ?_ | refine bar_f hS ?_ | refine ld_f hS 0 rfl rfl ?_ | refine ld_f hS 1 rfl rfl ?_ | refine ld_f hS 2 rfl rfl ?_ | refine ldA_f hS 0 rfl rfl ?_ | refine ldA_f hS 1 rfl rfl ?_ | refine ldA_f hS 2 rfl rfl ?_ | ((first | refine stN_f hS 0 rfl (lb9 rfl) rfl rfl ?_ | refine stN_f hS 1 rfl (lb9 rfl) rfl rfl ?_ | refine stN_f hS 2 rfl (lb9 rfl) rfl rfl ?_ | refine stM_f hS 0 rfl (lb9 rfl) rfl ?_ | refine stM_f hS 1 rfl (lb9 rfl) rfl ?_ | refine stM_f hS 2 rfl (lb9 rfl) rfl ?_); (conv => whnf); intro w1 hS) | refine ldN_f hS 0 rfl (lb9 rfl) ?_ | refine ldN_f hS 1 rfl (lb9 rfl) ?_ | refine ldN_f hS 2 rfl (lb9 rfl) ?_ | refine br_t (by assumption) ?_ | refine br_f (by assumption) ?_ | (refine dr9 hS ?_; intro w1 hS) | refine br_t (by assumption) ?_ | refine br_f (by assumption) ?_)
    refine fp_p (number_c 1 (.inl rfl) br _ _ hS.ownF) ?_ ?_
    · rintro v w3 ⟨hz, rfl, hS'⟩
      replace hS := hS.callW hS'
      repeat ((conv => whnf); first | (apply q_i; focus (intro w1 hS; (conv => whnf); first | exact ⟨rfl, rfl⟩ | ((first | refine ld_f hS 0 rfl rfl ?_ | refine ld_f hS 1 rfl rfl ?_ | refine ld_f hS 2 rfl rfl ?_ | refine ldA_f hS 0 rfl rfl ?_ | refine ldA_f hS 1 rfl rfl ?_ | refine ldA_f hS 2 rfl rfl ?_); (conv => whnf); exact ⟨rfl, rfl⟩) | ((refine ldN_f hS 0 rfl (lb9 rfl) ?_); (conv => whnf); exact ⟨rfl, rfl⟩) | ((refine ldN_f hS 1 rfl (lb9 rfl) ?_); (conv => whnf); exact ⟨rfl, rfl⟩) | ((refine ldN_f hS 2 rfl (lb9 rfl) ?_); (conv => whnf); exact ⟨rfl, rfl⟩) | ((refine br_t (by assumption) ?_); (conv => whnf); exact ⟨rfl, rfl⟩) | ((refine br_f (by assumption) ?_); (conv => whnf); exact ⟨rfl, rfl⟩))) | (refine nw_f hS ?_; intro b w1 hS) | refine as_i hS ?_ | refine as_i (hS.subs (List.nil_sublist _) sb9) ?_ | refine as_i (hS.subs (List.Sublist.refl _) sb9) ?_ | refine bar_f hS ?_ | refine ld_f hS 0 rfl rfl ?_ | refine ld_f hS 1 rfl rfl ?_ | refine ld_f hS 2 rfl rfl ?_ | refine ldA_f hS 0 rfl rfl ?_ | refine ldA_f hS 1 rfl rfl ?_ | refine ldA_f hS 2 rfl rfl ?_ | ((first | refine stN_f hS 0 rfl (lb9 rfl) rfl rfl ?_ | refine stN_f hS 1 rfl (lb9 rfl) rfl rfl ?_ | refine stN_f hS 2 rfl (lb9 rfl) rfl rfl ?_ | refine stM_f hS 0 rfl (lb9 rfl) rfl ?_ | refine stM_f hS 1 rfl (lb9 rfl) rfl ?_ | refine stM_f hS 2 rfl (lb9 rfl) rfl ?_); (conv => whnf); intro w1 hS) | refine ldN_f hS 0 rfl (lb9 rfl) ?_ | refine ldN_f hS 1 rfl (lb9 rfl) ?_ | refine ldN_f hS 2 rfl (lb9 rfl) ?_ | refine br_t (by assumption) ?_ | refine br_f (by assumption) ?_ | (refine dr9 hS ?_; intro w1 hS) | refine br_t (by assumption) ?_ | refine br_f (by assumption) ?_)
      rw [hq8, q8]
      refine ⟨by assumption, noHd, [], [], fun w'' _ => mem_none _ w'' rfl rfl, rfl, ?_⟩
      have h := hS.fr (List.Sublist.refl _)
      rw [List.append_nil] at h
      exact h
    · rintro c w3 ⟨hz, rfl, hS'⟩
      (conv => whnf)
      exact ⟨rfl, hz, rfl, (hS.callW hS').nil⟩
  · rw [bodyR2 _ hk]
    have g1 : (IntKind.u8.wrap k == 1) = false := by rw [hq8]; rw [hk]; rfl
    have g2 : (IntKind.u8.wrap k == 2) = true := by rw [hq8]; rw [hk]; rfl
    have g3 : (IntKind.u8.wrap k == 3) = false := by rw [hq8]; rw [hk]; rfl
    have g4 : (IntKind.u8.wrap k == 4) = false := by rw [hq8]; rw [hk]; rfl
    have g5 : (IntKind.u8.wrap k == 5) = false := by rw [hq8]; rw [hk]; rfl
    have g6 : (IntKind.u8.wrap k == 6) = false := by rw [hq8]; rw [hk]; rfl
    have g7 : (IntKind.u8.wrap k == 7) = false := by rw [hq8]; rw [hk]; rfl
    have g8 : (IntKind.u8.wrap k == 8) = false := by rw [hq8]; rw [hk]; rfl
    have h3 : (aftW 4 (aftW 4 (aftW 4 s1)), { zeroRx k with n0 := numW 4 s1, n1 := numW 4 (aftW 4 s1), n2 := numW 4 (aftW 4 (aftW 4 s1)) }) = ((tri s1 3).1, recN k (tri s1 3).2) := rfl
    rw [h3]
    clear h3
    repeat ((conv => whnf); first | (apply q_i; focus (intro w1 hS; (conv => whnf); first | exact ⟨rfl, rfl⟩ | ((first | refine ld_f hS 0 rfl rfl ?_ | refine ld_f hS 1 rfl rfl ?_ | refine ld_f hS 2 rfl rfl ?_ | refine ldA_f hS 0 rfl rfl ?_ | refine ldA_f hS 1 rfl rfl ?_ | refine ldA_f hS 2 rfl rfl ?_); (conv => whnf); exact ⟨rfl, rfl⟩) | ((refine ldN_f hS 0 rfl (lb9 rfl) ?_); (conv => whnf); exact ⟨rfl, rfl⟩) | ((refine ldN_f hS 1 rfl (lb9 rfl) ?_); (conv => whnf); exact ⟨rfl, rfl⟩) | ((refine ldN_f hS 2 rfl (lb9 rfl) ?_); (conv => whnf); exact ⟨rfl, rfl⟩) | ((refine br_t (by assumption) ?_); (conv => whnf); exact ⟨rfl, rfl⟩) | ((refine br_f (by assumption) ?_); (conv => whnf); exact ⟨rfl, rfl⟩))) | (refine nw_f hS ?_; intro b w1 hS) | refine as_i hS ?_ | refine as_i (hS.subs (List.nil_sublist _) sb9) ?_ | refine as_i (hS.subs (List.Sublist.refl _) sb9) ?_ | refine bar_f hS ?_ | refine ld_f hS 0 rfl rfl ?_ | refine ld_f hS 1 rfl rfl ?_ | refine ld_f hS 2 rfl rfl ?_ | refine ldA_f hS 0 rfl rfl ?_ | refine ldA_f hS 1 rfl rfl ?_ | refine ldA_f hS 2 rfl rfl ?_ | ((first | refine stN_f hS 0 rfl (lb9 rfl) rfl rfl ?_ | refine stN_f hS 1 rfl (lb9 rfl) rfl rfl ?_ | refine stN_f hS 2 rfl (lb9 rfl) rfl rfl ?_ | refine stM_f hS 0 rfl (lb9 rfl) rfl ?_ | refine stM_f hS 1 rfl (lb9 rfl) rfl ?_ | refine stM_f hS 2 rfl (lb9 rfl) rfl ?_); (conv => whnf); intro w1 hS) | refine ldN_f hS 0 rfl (lb9 rfl) ?_ | refine ldN_f hS 1 rfl (lb9 rfl) ?_ | refine ldN_f hS 2 rfl (lb9 rfl) ?_ | refine br_t (by assumption) ?_ | refine br_f (by assumption) ?_ | (refine dr9 hS ?_; intro w1 hS) | refine br_t (by assumption) ?_ | refine br_f (by assumption) ?_)
    replace hS : Sf [br] w _ ([(br, rdO s1)] ++ []) [(_, .cells (recL (recN (IntKind.u8.wrap k) zeroF) noHd).toArray 49 (0, 0)), _, _] := hS
    refine loopP_i TB_ok (fun i : Nat => [(21, .int .i64 i)]) (fun i w' => i ≤ 3 ∧ (tri s1 i).1.e = 0 ∧ Sf [br] w w' ([(br, rdO (tri s1 i).1)] ++ []) [(_, .cells (recL (recN (IntKind.u8.wrap k) (tri s1 i).2) noHd).toArray 49 (0, 0)), _, _]) (fun i => 3 - i) 0 rfl ⟨Nat.zero_le _, he, hS⟩ ?_
    rintro i us w3 ⟨hi, hei, hS⟩
    (conv => whnf)
    refine br_i (fun hb => ?_) (fun hb => ?_)
    · have hlt : i < 3 := by have := of_decide_eq_true hb; omega
      repeat ((conv => whnf); first | (apply q_i; focus (intro w1 hS; (conv => whnf); first | exact ⟨rfl, rfl⟩ | ((first | refine ld_f hS 0 rfl rfl ?_ | refine ld_f hS 1 rfl rfl ?_ | refine ld_f hS 2 rfl rfl ?_ | refine ldA_f hS 0 rfl rfl ?_ | refine ldA_f hS 1 rfl rfl ?_ | refine ldA_f hS 2 rfl rfl ?_); (conv => whnf); exact ⟨rfl, rfl⟩) | ((refine ldN_f hS 0 rfl (lb9 rfl) ?_); (conv => whnf); exact ⟨rfl, rfl⟩) | ((refine ldN_f hS 1 rfl (lb9 rfl) ?_); (conv => whnf); exact ⟨rfl, rfl⟩) | ((refine ldN_f hS 2 rfl (lb9 rfl) ?_); (conv => whnf); exact ⟨rfl, rfl⟩) | ((refine br_t (by assumption) ?_); (conv => whnf); exact ⟨rfl, rfl⟩) | ((refine br_f (by assumption) ?_); (conv => whnf); exact ⟨rfl, rfl⟩))) | (refine nw_f hS ?_; intro b w1 hS) | refine as_i hS ?_ | refine as_i (hS.subs (List.nil_sublist _) sb9) ?_ | refine as_i (hS.subs (List.Sublist.refl _) sb9) ?_ | refine bar_f hS ?_ | refine ld_f hS 0 rfl rfl ?_ | refine ld_f hS 1 rfl rfl ?_ | refine ld_f hS 2 rfl rfl ?_ | refine ldA_f hS 0 rfl rfl ?_ | refine ldA_f hS 1 rfl rfl ?_ | refine ldA_f hS 2 rfl rfl ?_ | ((first | refine stN_f hS 0 rfl (lb9 rfl) rfl rfl ?_ | refine stN_f hS 1 rfl (lb9 rfl) rfl rfl ?_ | refine stN_f hS 2 rfl (lb9 rfl) rfl rfl ?_ | refine stM_f hS 0 rfl (lb9 rfl) rfl ?_ | refine stM_f hS 1 rfl (lb9 rfl) rfl ?_ | refine stM_f hS 2 rfl (lb9 rfl) rfl ?_); (conv => whnf); intro w1 hS) | refine ldN_f hS 0 rfl (lb9 rfl) ?_ | refine ldN_f hS 1 rfl (lb9 rfl) ?_ | refine ldN_f hS 2 rfl (lb9 rfl) ?_ | refine br_t (by assumption) ?_ | refine br_f (by assumption) ?_ | (refine dr9 hS ?_; intro w1 hS) | refine br_t (by assumption) ?_ | refine br_f (by assumption) ?_)
      refine fp_p (number_c 4 (.inr (.inr rfl)) br _ _ hS.ownF) ?_ ?_
      · rintro v w4 ⟨he2, rfl, hS'⟩
        replace hS := hS.callW hS'
        repeat ((conv => whnf); first | (apply q_i; focus (intro w1 hS; (conv => whnf); first | exact ⟨rfl, rfl⟩ | ((refine .mk ⟨by omega, by omega⟩ ?_); (conv => whnf); exact ⟨rfl, rfl⟩) | ((refine stn_f hS 0 rfl hlt (by show 0 + (1 + 1) + (i : Int).toNat * 1 = 2 + i; omega) ?_; (conv => whnf); intro w1 hS); (conv => whnf); exact ⟨rfl, rfl⟩))) | (refine nw_f hS ?_; intro b w1 hS) | refine as_i hS ?_ | refine as_i (hS.subs (List.nil_sublist _) sb9) ?_ | refine as_i (hS.subs (List.Sublist.refl _) sb9) ?_ | refine bar_f hS ?_ | refine .mk ⟨by omega, by omega⟩ ?_ | (refine stn_f hS 0 rfl hlt (by show 0 + (1 + 1) + (i : Int).toNat * 1 = 2 + i; omega) ?_; (conv => whnf); intro w1 hS) | (refine dr9 hS ?_; intro w1 hS) | refine br_t (by assumption) ?_ | refine br_f (by assumption) ?_)
        refine ⟨rfl, i + 1, ?_, ⟨by omega, he2, hS⟩, by omega⟩
        rw [wi hlt (by omega)]
        rfl
      · rintro c w4 ⟨hz, rfl, hS'⟩
        (conv => whnf)
        have e2 : (tri s1 (i + 1)).1 = aftW 4 (tri s1 i).1 := rfl
        have e3 := tri_stick (s := s1) (i := i + 1) (by rw [e2]; exact hz) (2 - i)
        rw [show i + 1 + (2 - i) = 3 by omega] at e3
        rw [e3, e2]
        exact ⟨rfl, hz, rfl, (hS.callW hS').nil⟩
    · have hge : i = 3 := by have := of_decide_eq_false hb; omega
      subst hge
      repeat ((conv => whnf); first | (apply q_i; focus (intro w1 hS; (conv => whnf); first | exact ⟨rfl, rfl⟩ | ((first | refine ld_f hS 0 rfl rfl ?_ | refine ld_f hS 1 rfl rfl ?_ | refine ld_f hS 2 rfl rfl ?_ | refine ldA_f hS 0 rfl rfl ?_ | refine ldA_f hS 1 rfl rfl ?_ | refine ldA_f hS 2 rfl rfl ?_); (conv => whnf); exact ⟨rfl, rfl⟩) | ((refine ldN_f hS 0 rfl (lb9 rfl) ?_); (conv => whnf); exact ⟨rfl, rfl⟩) | ((refine ldN_f hS 1 rfl (lb9 rfl) ?_); (conv => whnf); exact ⟨rfl, rfl⟩) | ((refine ldN_f hS 2 rfl (lb9 rfl) ?_); (conv => whnf); exact ⟨rfl, rfl⟩) | ((refine br_t (by assumption) ?_); (conv => whnf); exact ⟨rfl, rfl⟩) | ((refine br_f (by assumption) ?_); (conv => whnf); exact ⟨rfl, rfl⟩))) | (refine nw_f hS ?_; intro b w1 hS) | refine as_i hS ?_ | refine as_i (hS.subs (List.nil_sublist _) sb9) ?_ | refine as_i (hS.subs (List.Sublist.refl _) sb9) ?_ | refine bar_f hS ?_ | refine ld_f hS 0 rfl rfl ?_ | refine ld_f hS 1 rfl rfl ?_ | refine ld_f hS 2 rfl rfl ?_ | refine ldA_f hS 0 rfl rfl ?_ | refine ldA_f hS 1 rfl rfl ?_ | refine ldA_f hS 2 rfl rfl ?_ | ((first | refine stN_f hS 0 rfl (lb9 rfl) rfl rfl ?_ | refine stN_f hS 1 rfl (lb9 rfl) rfl rfl ?_ | refine stN_f hS 2 rfl (lb9 rfl) rfl rfl ?_ | refine stM_f hS 0 rfl (lb9 rfl) rfl ?_ | refine stM_f hS 1 rfl (lb9 rfl) rfl ?_ | refine stM_f hS 2 rfl (lb9 rfl) rfl ?_); (conv => whnf); intro w1 hS) | refine ldN_f hS 0 rfl (lb9 rfl) ?_ | refine ldN_f hS 1 rfl (lb9 rfl) ?_ | refine ldN_f hS 2 rfl (lb9 rfl) ?_ | refine br_t (by assumption) ?_ | refine br_f (by assumption) ?_ | (refine dr9 hS ?_; intro w1 hS) | refine br_t (by assumption) ?_ | refine br_f (by assumption) ?_)
      rw [hq8]
      refine ⟨hei, noHd, [], [], fun w'' _ => mem_none _ w'' rfl rfl, rfl, ?_⟩
      have h := hS.fr (List.Sublist.refl _)
      rw [List.append_nil] at h
      exact h
  · rw [bodyR3 _ hk]
    have g1 : (IntKind.u8.wrap k == 1) = false := by rw [hq8]; rw [hk]; rfl
    have g2 : (IntKind.u8.wrap k == 2) = false := by rw [hq8]; rw [hk]; rfl
    have g3 : (IntKind.u8.wrap k == 3) = true := by rw [hq8]; rw [hk]; rfl
    have g4 : (IntKind.u8.wrap k == 4) = false := by rw [hq8]; rw [hk]; rfl
    have g5 : (IntKind.u8.wrap k == 5) = false := by rw [hq8]; rw [hk]; rfl
    have g6 : (IntKind.u8.wrap k == 6) = false := by rw [hq8]; rw [hk]; rfl
    have g7 : (IntKind.u8.wrap k == 7) = false := by rw [hq8]; rw [hk]; rfl
    have g8 : (IntKind.u8.wrap k == 8) = false := by rw [hq8]; rw [hk]; rfl
    repeat ((conv => whnf); first | (apply q_i; focus (intro w1 hS; (conv => whnf); first | exact ⟨rfl, rfl⟩ | ((first | refine ld_f hS 0 rfl rfl ?_ | refine ld_f hS 1 rfl rfl ?_ | refine ld_f hS 2 rfl rfl ?_ | refine ldA_f hS 0 rfl rfl ?_ | refine ldA_f hS 1 rfl rfl ?_ | refine ldA_f hS 2 rfl rfl ?_); (conv => whnf); exact ⟨rfl, rfl⟩) | ((refine ldN_f hS 0 rfl (lb9 rfl) ?_); (conv => whnf); exact ⟨rfl, rfl⟩) | ((refine ldN_f hS 1 rfl (lb9 rfl) ?_); (conv => whnf); exact ⟨rfl, rfl⟩) | ((refine ldN_f hS 2 rfl (lb9 rfl) ?_); (conv => whnf); exact ⟨rfl, rfl⟩) | ((refine br_t (by assumption) ?_); (conv => whnf); exact ⟨rfl, rfl⟩) | ((refine br_f (by assumption) ?_); (conv => whnf); exact ⟨rfl, rfl⟩))) | (refine nw_f hS ?_; intro b w1 hS) | refine as_i hS ?_ | refine as_i (hS.subs (List.nil_sublist _) sb9) ?_ | refine as_i (hS.subs (List.Sublist.refl _) sb9) ?_ | refine bar_f hS ?_ | refine ld_f hS 0 rfl rfl ?_ | refine ld_f hS 1 rfl rfl ?_ | refine ld_f hS 2 rfl rfl ?_ | refine ldA_f hS 0 rfl rfl ?_ | refine ldA_f hS 1 rfl rfl ?_ | refine ldA_f hS 2 rfl rfl ?_ | ((first | refine stN_f hS 0 rfl (lb9 rfl) rfl rfl ?_ | refine stN_f hS 1 rfl (lb9 rfl) rfl rfl ?_ | refine stN_f hS 2 rfl (lb9 rfl) rfl rfl ?_ | refine stM_f hS 0 rfl (lb9 rfl) rfl ?_ | refine stM_f hS 1 rfl (lb9 rfl) rfl ?_ | refine stM_f hS 2 rfl (lb9 rfl) rfl ?_); (conv => whnf); intro w1 hS) | refine ldN_f hS 0 rfl (lb9 rfl) ?_ | refine ldN_f hS 1 rfl (lb9 rfl) ?_ | refine ldN_f hS 2 rfl (lb9 rfl) ?_ | refine br_t (by assumption) ?_ | refine br_f (by assumption) ?_ | (refine dr9 hS ?_; intro w1 hS) | refine br_t (by assumption) ?_ | refine br_f (by assumption) ?_)
    refine fp_p (number_c 1 (.inl rfl) br _ _ hS.ownF) ?_ ?_
    · rintro v w3 ⟨hz, rfl, hS'⟩
      replace hS := hS.callW hS'
      repeat ((conv => whnf); first | (apply q_i; focus (intro w1 hS; (conv => whnf); first | exact ⟨rfl, rfl⟩ | ((first | refine ld_f hS 0 rfl rfl ?_ | refine ld_f hS 1 rfl rfl ?_ | refine ld_f hS 2 rfl rfl ?_ | refine ldA_f hS 0 rfl rfl ?_ | refine ldA_f hS 1 rfl rfl ?_ | refine ldA_f hS 2 rfl rfl ?_); (conv => whnf); exact ⟨rfl, rfl⟩) | ((refine ldN_f hS 0 rfl (lb9 rfl) ?_); (conv => whnf); exact ⟨rfl, rfl⟩) | ((refine ldN_f hS 1 rfl (lb9 rfl) ?_); (conv => whnf); exact ⟨rfl, rfl⟩) | ((refine ldN_f hS 2 rfl (lb9 rfl) ?_); (conv => whnf); exact ⟨rfl, rfl⟩) | ((refine br_t (by assumption) ?_); (conv => whnf); exact ⟨rfl, rfl⟩) | ((refine br_f (by assumption) ?_); (conv => whnf); exact ⟨rfl, rfl⟩))) | (refine nw_f hS ?_; intro b w1 hS) | refine as_i hS ?_ | refine as_i (hS.subs (List.nil_sublist _) sb9) ?_ | refine as_i (hS.subs (List.Sublist.refl _) sb9) ?_ | refine bar_f hS ?_ | refine ld_f hS 0 rfl rfl ?_ | refine ld_f hS 1 rfl rfl ?_ | refine ld_f hS 2 rfl rfl ?_ | refine ldA_f hS 0 rfl rfl ?_ | refine ldA_f hS 1 rfl rfl ?_ | refine ldA_f hS 2 rfl rfl ?_ | ((first | refine stN_f hS 0 rfl (lb9 rfl) rfl rfl ?_ | refine stN_f hS 1 rfl (lb9 rfl) rfl rfl ?_ | refine stN_f hS 2 rfl (lb9 rfl) rfl rfl ?_ | refine stM_f hS 0 rfl (lb9 rfl) rfl ?_ | refine stM_f hS 1 rfl (lb9 rfl) rfl ?_ | refine stM_f hS 2 rfl (lb9 rfl) rfl ?_); (conv => whnf); intro w1 hS) | refine ldN_f hS 0 rfl (lb9 rfl) ?_ | refine ldN_f hS 1 rfl (lb9 rfl) ?_ | refine ldN_f hS 2 rfl (lb9 rfl) ?_ | refine br_t (by assumption) ?_ | refine br_f (by assumption) ?_ | (refine dr9 hS ?_; intro w1 hS) | refine br_t (by assumption) ?_ | refine br_f (by assumption) ?_)
      refine fp_p (number_c 4 (.inr (.inr rfl)) br _ _ hS.ownF) ?_ ?_
      · rintro v w3 ⟨hz, rfl, hS'⟩
        replace hS := hS.callW hS'
        repeat ((conv => whnf); first | (apply q_i; focus (intro w1 hS; (conv => whnf); first | exact ⟨rfl, rfl⟩ | ((first | refine ld_f hS 0 rfl rfl ?_ | refine ld_f hS 1 rfl rfl ?_ | refine ld_f hS 2 rfl rfl ?_ | refine ldA_f hS 0 rfl rfl ?_ | refine ldA_f hS 1 rfl rfl ?_ | refine ldA_f hS 2 rfl rfl ?_); (conv => whnf); exact ⟨rfl, rfl⟩) | ((refine ldN_f hS 0 rfl (lb9 rfl) ?_); (conv => whnf); exact ⟨rfl, rfl⟩) | ((refine ldN_f hS 1 rfl (lb9 rfl) ?_); (conv => whnf); exact ⟨rfl, rfl⟩) | ((refine ldN_f hS 2 rfl (lb9 rfl) ?_); (conv => whnf); exact ⟨rfl, rfl⟩) | ((refine br_t (by assumption) ?_); (conv => whnf); exact ⟨rfl, rfl⟩) | ((refine br_f (by assumption) ?_); (conv => whnf); exact ⟨rfl, rfl⟩))) | (refine nw_f hS ?_; intro b w1 hS) | refine as_i hS ?_ | refine as_i (hS.subs (List.nil_sublist _) sb9) ?_ | refine as_i (hS.subs (List.Sublist.refl _) sb9) ?_ | refine bar_f hS ?_ | refine ld_f hS 0 rfl rfl ?_ | refine ld_f hS 1 rfl rfl ?_ | refine ld_f hS 2 rfl rfl ?_ | refine ldA_f hS 0 rfl rfl ?_ | refine ldA_f hS 1 rfl rfl ?_ | refine ldA_f hS 2 rfl rfl ?_ | ((first | refine stN_f hS 0 rfl (lb9 rfl) rfl rfl ?_ | refine stN_f hS 1 rfl (lb9 rfl) rfl rfl ?_ | refine stN_f hS 2 rfl (lb9 rfl) rfl rfl ?_ | refine stM_f hS 0 rfl (lb9 rfl) rfl ?_ | refine stM_f hS 1 rfl (lb9 rfl) rfl ?_ | refine stM_f hS 2 rfl (lb9 rfl) rfl ?_); (conv => whnf); intro w1 hS) | refine ldN_f hS 0 rfl (lb9 rfl) ?_ | refine ldN_f hS 1 rfl (lb9 rfl) ?_ | refine ldN_f hS 2 rfl (lb9 rfl) ?_ | refine br_t (by assumption) ?_ | refine br_f (by assumption) ?_ | (refine dr9 hS ?_; intro w1 hS) | refine br_t (by assumption) ?_ | refine br_f (by assumption) ?_)
        refine fp_p (number_c 4 (.inr (.inr rfl)) br _ _ hS.ownF) ?_ ?_
        · rintro v w3 ⟨hz, rfl, hS'⟩
          replace hS := hS.callW hS'
          repeat ((conv => whnf); first | (apply q_i; focus (intro w1 hS; (conv => whnf); first | exact ⟨rfl, rfl⟩ | ((first | refine ld_f hS 0 rfl rfl ?_ | refine ld_f hS 1 rfl rfl ?_ | refine ld_f hS 2 rfl rfl ?_ | refine ldA_f hS 0 rfl rfl ?_ | refine ldA_f hS 1 rfl rfl ?_ | refine ldA_f hS 2 rfl rfl ?_); (conv => whnf); exact ⟨rfl, rfl⟩) | ((refine ldN_f hS 0 rfl (lb9 rfl) ?_); (conv => whnf); exact ⟨rfl, rfl⟩) | ((refine ldN_f hS 1 rfl (lb9 rfl) ?_); (conv => whnf); exact ⟨rfl, rfl⟩) | ((refine ldN_f hS 2 rfl (lb9 rfl) ?_); (conv => whnf); exact ⟨rfl, rfl⟩) | ((refine br_t (by assumption) ?_); (conv => whnf); exact ⟨rfl, rfl⟩) | ((refine br_f (by assumption) ?_); (conv => whnf); exact ⟨rfl, rfl⟩))) | (refine nw_f hS ?_; intro b w1 hS) | refine as_i hS ?_ | refine as_i (hS.subs (List.nil_sublist _) sb9) ?_ | refine as_i (hS.subs (List.Sublist.refl _) sb9) ?_ | refine bar_f hS ?_ | refine ld_f hS 0 rfl rfl ?_ | refine ld_f hS 1 rfl rfl ?_ | refine ld_f hS 2 rfl rfl ?_ | refine ldA_f hS 0 rfl rfl ?_ | refine ldA_f hS 1 rfl rfl ?_ | refine ldA_f hS 2 rfl rfl ?_ | ((first | refine stN_f hS 0 rfl (lb9 rfl) rfl rfl ?_ | refine stN_f hS 1 rfl (lb9 rfl) rfl rfl ?_ | refine stN_f hS 2 rfl (lb9 rfl) rfl rfl ?_ | refine stM_f hS 0 rfl (lb9 rfl) rfl ?_ | refine stM_f hS 1 rfl (lb9 rfl) rfl ?_ | refine stM_f hS 2 rfl (lb9 rfl) rfl ?_); (conv => whnf); intro w1 hS) | refine ldN_f hS 0 rfl (lb9 rfl) ?_ | refine ldN_f hS 1 rfl (lb9 rfl) ?_ | refine ldN_f hS 2 rfl (lb9 rfl) ?_ | refine br_t (by assumption) ?_ | refine br_f (by assumption) ?_ | (refine dr9 hS ?_; intro w1 hS) | refine br_t (by assumption) ?_ | refine br_f (by assumption) ?_)
          rw [hq8, q8, q64]
          refine ⟨by assumption, noHd, [], [], fun w'' _ => mem_none _ w'' rfl rfl, rfl, ?_⟩
          have h := hS.fr (List.Sublist.refl _)
          rw [List.append_nil] at h
          exact h
        · rintro c w3 ⟨hz, rfl, hS'⟩
          (conv => whnf)
          exact ⟨rfl, hz, rfl, (hS.callW hS').nil⟩
      · rintro c w3 ⟨hz, rfl, hS'⟩
        (conv => whnf)
        rw [aftW_err hz]
        exact ⟨rfl, hz, rfl, (hS.callW hS').nil⟩
    · rintro c w3 ⟨hz, rfl, hS'⟩
      (conv => whnf)
      rw [aftW_err hz, aftW_err hz]
      exact ⟨rfl, hz, rfl, (hS.callW hS').nil⟩
  · rw [bodyR4 _ hk]
    have g1 : (IntKind.u8.wrap k == 1) = false := by rw [hq8]; rw [hk]; rfl
    have g2 : (IntKind.u8.wrap k == 2) = false := by rw [hq8]; rw [hk]; rfl
    have g3 : (IntKind.u8.wrap k == 3) = false := by rw [hq8]; rw [hk]; rfl
    have g4 : (IntKind.u8.wrap k == 4) = true := by rw [hq8]; rw [hk]; rfl
    have g5 : (IntKind.u8.wrap k == 5) = false := by rw [hq8]; rw [hk]; rfl
    have g6 : (IntKind.u8.wrap k == 6) = false := by rw [hq8]; rw [hk]; rfl
    have g7 : (IntKind.u8.wrap k == 7) = false := by rw [hq8]; rw [hk]; rfl
    have g8 : (IntKind.u8.wrap k == 8) = false := by rw [hq8]; rw [hk]; rfl
    repeat ((conv => whnf); first | (apply q_i; focus (intro w1 hS; (conv => whnf); first | exact ⟨rfl, rfl⟩ | ((first | refine ld_f hS 0 rfl rfl ?_ | refine ld_f hS 1 rfl rfl ?_ | refine ld_f hS 2 rfl rfl ?_ | refine ldA_f hS 0 rfl rfl ?_ | refine ldA_f hS 1 rfl rfl ?_ | refine ldA_f hS 2 rfl rfl ?_); (conv => whnf); exact ⟨rfl, rfl⟩) | ((refine ldN_f hS 0 rfl (lb9 rfl) ?_); (conv => whnf); exact ⟨rfl, rfl⟩) | ((refine ldN_f hS 1 rfl (lb9 rfl) ?_); (conv => whnf); exact ⟨rfl, rfl⟩) | ((refine ldN_f hS 2 rfl (lb9 rfl) ?_); (conv => whnf); exact ⟨rfl, rfl⟩) | ((refine br_t (by assumption) ?_); (conv => whnf); exact ⟨rfl, rfl⟩) | ((refine br_f (by assumption) ?_); (conv => whnf); exact ⟨rfl, rfl⟩))) | (refine nw_f hS ?_; intro b w1 hS) | refine as_i hS ?_ | refine as_i (hS.subs (List.nil_sublist _) sb9) ?_ | refine as_i (hS.subs (List.Sublist.refl _) sb9) ?_ | refine bar_f hS ?_ | refine ld_f hS 0 rfl rfl ?_ | refine ld_f hS 1 rfl rfl ?_ | refine ld_f hS 2 rfl rfl ?_ | refine ldA_f hS 0 rfl rfl ?_ | refine ldA_f hS 1 rfl rfl ?_ | refine ldA_f hS 2 rfl rfl ?_ | ((first | refine stN_f hS 0 rfl (lb9 rfl) rfl rfl ?_ | refine stN_f hS 1 rfl (lb9 rfl) rfl rfl ?_ | refine stN_f hS 2 rfl (lb9 rfl) rfl rfl ?_ | refine stM_f hS 0 rfl (lb9 rfl) rfl ?_ | refine stM_f hS 1 rfl (lb9 rfl) rfl ?_ | refine stM_f hS 2 rfl (lb9 rfl) rfl ?_); (conv => whnf); intro w1 hS) | refine ldN_f hS 0 rfl (lb9 rfl) ?_ | refine ldN_f hS 1 rfl (lb9 rfl) ?_ | refine ldN_f hS 2 rfl (lb9 rfl) ?_ | refine br_t (by assumption) ?_ | refine br_f (by assumption) ?_ | (refine dr9 hS ?_; intro w1 hS) | refine br_t (by assumption) ?_ | refine br_f (by assumption) ?_)
    refine fp_p (path18_c br _ _ hS.ownF) ?_ ?_
    · rintro v w3 ⟨hz, rfl, hS'⟩
      replace hS := hS.callW hS'
      repeat ((conv => whnf); first | (apply q_i; focus (intro w1 hS; (conv => whnf); first | exact ⟨rfl, rfl⟩ | ((first | refine ld_f hS 0 rfl rfl ?_ | refine ld_f hS 1 rfl rfl ?_ | refine ld_f hS 2 rfl rfl ?_ | refine ldA_f hS 0 rfl rfl ?_ | refine ldA_f hS 1 rfl rfl ?_ | refine ldA_f hS 2 rfl rfl ?_); (conv => whnf); exact ⟨rfl, rfl⟩) | ((refine ldN_f hS 0 rfl (lb9 rfl) ?_); (conv => whnf); exact ⟨rfl, rfl⟩) | ((refine ldN_f hS 1 rfl (lb9 rfl) ?_); (conv => whnf); exact ⟨rfl, rfl⟩) | ((refine ldN_f hS 2 rfl (lb9 rfl) ?_); (conv => whnf); exact ⟨rfl, rfl⟩) | ((refine br_t (by assumption) ?_); (conv => whnf); exact ⟨rfl, rfl⟩) | ((refine br_f (by assumption) ?_); (conv => whnf); exact ⟨rfl, rfl⟩))) | (refine nw_f hS ?_; intro b w1 hS) | refine as_i hS ?_ | refine as_i (hS.subs (List.nil_sublist _) sb9) ?_ | refine as_i (hS.subs (List.Sublist.refl _) sb9) ?_ | refine bar_f hS ?_ | refine ld_f hS 0 rfl rfl ?_ | refine ld_f hS 1 rfl rfl ?_ | refine ld_f hS 2 rfl rfl ?_ | refine ldA_f hS 0 rfl rfl ?_ | refine ldA_f hS 1 rfl rfl ?_ | refine ldA_f hS 2 rfl rfl ?_ | ((first | refine stN_f hS 0 rfl (lb9 rfl) rfl rfl ?_ | refine stN_f hS 1 rfl (lb9 rfl) rfl rfl ?_ | refine stN_f hS 2 rfl (lb9 rfl) rfl rfl ?_ | refine stM_f hS 0 rfl (lb9 rfl) rfl ?_ | refine stM_f hS 1 rfl (lb9 rfl) rfl ?_ | refine stM_f hS 2 rfl (lb9 rfl) rfl ?_); (conv => whnf); intro w1 hS) | refine ldN_f hS 0 rfl (lb9 rfl) ?_ | refine ldN_f hS 1 rfl (lb9 rfl) ?_ | refine ldN_f hS 2 rfl (lb9 rfl) ?_ | refine br_t (by assumption) ?_ | refine br_f (by assumption) ?_ | (refine dr9 hS ?_; intro w1 hS) | refine br_t (by assumption) ?_ | refine br_f (by assumption) ?_)
      refine fp_p (register18_c br _ _ hS.ownF) ?_ ?_
      · rintro v w3 ⟨hz, A, c, ms, Lv, hH, hxs, rfl, hS'⟩
        replace hS := hS.callW hS'
        repeat ((conv => whnf); first | (apply q_i; focus (intro w1 hS; (conv => whnf); first | exact ⟨rfl, rfl⟩ | ((first | refine ld_f hS 0 rfl rfl ?_ | refine ld_f hS 1 rfl rfl ?_ | refine ld_f hS 2 rfl rfl ?_ | refine ldA_f hS 0 rfl rfl ?_ | refine ldA_f hS 1 rfl rfl ?_ | refine ldA_f hS 2 rfl rfl ?_); (conv => whnf); exact ⟨rfl, rfl⟩) | ((refine ldN_f hS 0 rfl (lb9 rfl) ?_); (conv => whnf); exact ⟨rfl, rfl⟩) | ((refine ldN_f hS 1 rfl (lb9 rfl) ?_); (conv => whnf); exact ⟨rfl, rfl⟩) | ((refine ldN_f hS 2 rfl (lb9 rfl) ?_); (conv => whnf); exact ⟨rfl, rfl⟩) | ((refine br_t (by assumption) ?_); (conv => whnf); exact ⟨rfl, rfl⟩) | ((refine br_f (by assumption) ?_); (conv => whnf); exact ⟨rfl, rfl⟩))) | (refine nw_f hS ?_; intro b w1 hS) | refine as_i hS ?_ | refine as_i (hS.subs (List.nil_sublist _) sb9) ?_ | refine as_i (hS.subs (List.Sublist.refl _) sb9) ?_ | refine bar_f hS ?_ | refine ld_f hS 0 rfl rfl ?_ | refine ld_f hS 1 rfl rfl ?_ | refine ld_f hS 2 rfl rfl ?_ | refine ldA_f hS 0 rfl rfl ?_ | refine ldA_f hS 1 rfl rfl ?_ | refine ldA_f hS 2 rfl rfl ?_ | ((first | refine stN_f hS 0 rfl (lb9 rfl) rfl rfl ?_ | refine stN_f hS 1 rfl (lb9 rfl) rfl rfl ?_ | refine stN_f hS 2 rfl (lb9 rfl) rfl rfl ?_ | refine stM_f hS 0 rfl (lb9 rfl) rfl ?_ | refine stM_f hS 1 rfl (lb9 rfl) rfl ?_ | refine stM_f hS 2 rfl (lb9 rfl) rfl ?_); (conv => whnf); intro w1 hS) | refine ldN_f hS 0 rfl (lb9 rfl) ?_ | refine ldN_f hS 1 rfl (lb9 rfl) ?_ | refine ldN_f hS 2 rfl (lb9 rfl) ?_ | refine br_t (by assumption) ?_ | refine br_f (by assumption) ?_ | (refine dr9 hS ?_; intro w1 hS) | refine br_t (by assumption) ?_ | refine br_f (by assumption) ?_)
        rw [hq8, show ms.length = (regR (pthR s1).1).2.2.length by rw [hxs, List.length_map]]
        refine ⟨by assumption, ⟨A, c, none, 0⟩, ms, Lv, fun w'' hh => ⟨hxs, hH w'' hh, .inl rfl⟩, rfl, ?_⟩
        have h := hS.fr (List.Sublist.refl _)
        rw [List.append_nil] at h
        exact h
      · rintro c w3 ⟨hz, rfl, hS'⟩
        (conv => whnf)
        exact ⟨rfl, hz, rfl, (hS.callW hS').nil⟩
    · rintro c w3 ⟨hz, rfl, hS'⟩
      (conv => whnf)
      rw [regR_err hz]
      exact ⟨rfl, hz, rfl, (hS.callW hS').nil⟩
  · rw [bodyR5 _ hk]
    have g1 : (IntKind.u8.wrap k == 1) = false := by rw [hq8]; rw [hk]; rfl
    have g2 : (IntKind.u8.wrap k == 2) = false := by rw [hq8]; rw [hk]; rfl
    have g3 : (IntKind.u8.wrap k == 3) = false := by rw [hq8]; rw [hk]; rfl
    have g4 : (IntKind.u8.wrap k == 4) = false := by rw [hq8]; rw [hk]; rfl
    have g5 : (IntKind.u8.wrap k == 5) = true := by rw [hq8]; rw [hk]; rfl
    have g6 : (IntKind.u8.wrap k == 6) = false := by rw [hq8]; rw [hk]; rfl
    have g7 : (IntKind.u8.wrap k == 7) = false := by rw [hq8]; rw [hk]; rfl
    have g8 : (IntKind.u8.wrap k == 8) = false := by rw [hq8]; rw [hk]; rfl
    repeat ((conv => whnf); first | (apply q_i; focus (intro w1 hS; (conv => whnf); first | exact ⟨rfl, rfl⟩ | ((first | refine ld_f hS 0 rfl rfl ?_ | refine ld_f hS 1 rfl rfl ?_ | refine ld_f hS 2 rfl rfl ?_ | refine ldA_f hS 0 rfl rfl ?_ | refine ldA_f hS 1 rfl rfl ?_ | refine ldA_f hS 2 rfl rfl ?_); (conv => whnf); exact ⟨rfl, rfl⟩) | ((refine ldN_f hS 0 rfl (lb9 rfl) ?_); (conv => whnf); exact ⟨rfl, rfl⟩) | ((refine ldN_f hS 1 rfl (lb9 rfl) ?_); (conv => whnf); exact ⟨rfl, rfl⟩) | ((refine ldN_f hS 2 rfl (lb9 rfl) ?_); (conv => whnf); exact ⟨rfl, rfl⟩) | ((refine br_t (by assumption) ?_); (conv => whnf); exact ⟨rfl, rfl⟩) | ((refine br_f (by assumption) ?_); (conv => whnf); exact ⟨rfl, rfl⟩))) | (refine nw_f hS ?_; intro b w1 hS) | refine as_i hS ?_ | refine as_i (hS.subs (List.nil_sublist _) sb9) ?_ | refine as_i (hS.subs (List.Sublist.refl _) sb9) ?_ | refine bar_f hS ?_ | refine ld_f hS 0 rfl rfl ?_ | refine ld_f hS 1 rfl rfl ?_ | refine ld_f hS 2 rfl rfl ?_ | refine ldA_f hS 0 rfl rfl ?_ | refine ldA_f hS 1 rfl rfl ?_ | refine ldA_f hS 2 rfl rfl ?_ | ((first | refine stN_f hS 0 rfl (lb9 rfl) rfl rfl ?_ | refine stN_f hS 1 rfl (lb9 rfl) rfl rfl ?_ | refine stN_f hS 2 rfl (lb9 rfl) rfl rfl ?_ | refine stM_f hS 0 rfl (lb9 rfl) rfl ?_ | refine stM_f hS 1 rfl (lb9 rfl) rfl ?_ | refine stM_f hS 2 rfl (lb9 rfl) rfl ?_); (conv => whnf); intro w1 hS) | refine ldN_f hS 0 rfl (lb9 rfl) ?_ | refine ldN_f hS 1 rfl (lb9 rfl) ?_ | refine ldN_f hS 2 rfl (lb9 rfl) ?_ | refine br_t (by assumption) ?_ | refine br_f (by assumption) ?_ | (refine dr9 hS ?_; intro w1 hS) | refine br_t (by assumption) ?_ | refine br_f (by assumption) ?_)
    refine fp_p (path18_c br _ _ hS.ownF) ?_ ?_
    · rintro v w3 ⟨hz, rfl, hS'⟩
      replace hS := hS.callW hS'
      repeat ((conv => whnf); first | (apply q_i; focus (intro w1 hS; (conv => whnf); first | exact ⟨rfl, rfl⟩ | ((first | refine ld_f hS 0 rfl rfl ?_ | refine ld_f hS 1 rfl rfl ?_ | refine ld_f hS 2 rfl rfl ?_ | refine ldA_f hS 0 rfl rfl ?_ | refine ldA_f hS 1 rfl rfl ?_ | refine ldA_f hS 2 rfl rfl ?_); (conv => whnf); exact ⟨rfl, rfl⟩) | ((refine ldN_f hS 0 rfl (lb9 rfl) ?_); (conv => whnf); exact ⟨rfl, rfl⟩) | ((refine ldN_f hS 1 rfl (lb9 rfl) ?_); (conv => whnf); exact ⟨rfl, rfl⟩) | ((refine ldN_f hS 2 rfl (lb9 rfl) ?_); (conv => whnf); exact ⟨rfl, rfl⟩) | ((refine br_t (by assumption) ?_); (conv => whnf); exact ⟨rfl, rfl⟩) | ((refine br_f (by assumption) ?_); (conv => whnf); exact ⟨rfl, rfl⟩))) | (refine nw_f hS ?_; intro b w1 hS) | refine as_i hS ?_ | refine as_i (hS.subs (List.nil_sublist _) sb9) ?_ | refine as_i (hS.subs (List.Sublist.refl _) sb9) ?_ | refine bar_f hS ?_ | refine ld_f hS 0 rfl rfl ?_ | refine ld_f hS 1 rfl rfl ?_ | refine ld_f hS 2 rfl rfl ?_ | refine ldA_f hS 0 rfl rfl ?_ | refine ldA_f hS 1 rfl rfl ?_ | refine ldA_f hS 2 rfl rfl ?_ | ((first | refine stN_f hS 0 rfl (lb9 rfl) rfl rfl ?_ | refine stN_f hS 1 rfl (lb9 rfl) rfl rfl ?_ | refine stN_f hS 2 rfl (lb9 rfl) rfl rfl ?_ | refine stM_f hS 0 rfl (lb9 rfl) rfl ?_ | refine stM_f hS 1 rfl (lb9 rfl) rfl ?_ | refine stM_f hS 2 rfl (lb9 rfl) rfl ?_); (conv => whnf); intro w1 hS) | refine ldN_f hS 0 rfl (lb9 rfl) ?_ | refine ldN_f hS 1 rfl (lb9 rfl) ?_ | refine ldN_f hS 2 rfl (lb9 rfl) ?_ | refine br_t (by assumption) ?_ | refine br_f (by assumption) ?_ | (refine dr9 hS ?_; intro w1 hS) | refine br_t (by assumption) ?_ | refine br_f (by assumption) ?_)
      refine fp_p (version18_c br _ _ hS.ownF) ?_ ?_
      · rintro v w3 ⟨hz, hvk, A, c, Lv, hH, rfl, hS'⟩
        replace hS := hS.callW hS'
        repeat ((conv => whnf); first | (apply q_i; focus (intro w1 hS; (conv => whnf); first | exact ⟨rfl, rfl⟩ | ((first | refine ld_f hS 0 rfl rfl ?_ | refine ld_f hS 1 rfl rfl ?_ | refine ld_f hS 2 rfl rfl ?_ | refine ldA_f hS 0 rfl rfl ?_ | refine ldA_f hS 1 rfl rfl ?_ | refine ldA_f hS 2 rfl rfl ?_); (conv => whnf); exact ⟨rfl, rfl⟩) | ((refine ldN_f hS 0 rfl (lb9 rfl) ?_); (conv => whnf); exact ⟨rfl, rfl⟩) | ((refine ldN_f hS 1 rfl (lb9 rfl) ?_); (conv => whnf); exact ⟨rfl, rfl⟩) | ((refine ldN_f hS 2 rfl (lb9 rfl) ?_); (conv => whnf); exact ⟨rfl, rfl⟩) | ((refine br_t (by assumption) ?_); (conv => whnf); exact ⟨rfl, rfl⟩) | ((refine br_f (by assumption) ?_); (conv => whnf); exact ⟨rfl, rfl⟩))) | (refine nw_f hS ?_; intro b w1 hS) | refine as_i hS ?_ | refine as_i (hS.subs (List.nil_sublist _) sb9) ?_ | refine as_i (hS.subs (List.Sublist.refl _) sb9) ?_ | refine bar_f hS ?_ | refine ld_f hS 0 rfl rfl ?_ | refine ld_f hS 1 rfl rfl ?_ | refine ld_f hS 2 rfl rfl ?_ | refine ldA_f hS 0 rfl rfl ?_ | refine ldA_f hS 1 rfl rfl ?_ | refine ldA_f hS 2 rfl rfl ?_ | ((first | refine stN_f hS 0 rfl (lb9 rfl) rfl rfl ?_ | refine stN_f hS 1 rfl (lb9 rfl) rfl rfl ?_ | refine stN_f hS 2 rfl (lb9 rfl) rfl rfl ?_ | refine stM_f hS 0 rfl (lb9 rfl) rfl ?_ | refine stM_f hS 1 rfl (lb9 rfl) rfl ?_ | refine stM_f hS 2 rfl (lb9 rfl) rfl ?_); (conv => whnf); intro w1 hS) | refine ldN_f hS 0 rfl (lb9 rfl) ?_ | refine ldN_f hS 1 rfl (lb9 rfl) ?_ | refine ldN_f hS 2 rfl (lb9 rfl) ?_ | refine br_t (by assumption) ?_ | refine br_f (by assumption) ?_ | (refine dr9 hS ?_; intro w1 hS) | refine br_t (by assumption) ?_ | refine br_f (by assumption) ?_)
        rw [hq8]
        refine ⟨by assumption, ⟨none, 0, A, c⟩, [], Lv, fun w'' hh => ⟨rfl, ⟨.inl rfl, fun m hm => nomatch hm⟩, hH w'' hh⟩, rfl, ?_⟩
        have h := hS.fr (List.Sublist.refl _)
        rw [List.append_nil] at h
        exact h
      · rintro c w3 ⟨hz, rfl, hS'⟩
        (conv => whnf)
        exact ⟨rfl, hz, rfl, (hS.callW hS').nil⟩
    · rintro c w3 ⟨hz, rfl, hS'⟩
      (conv => whnf)
      rw [verR_err hz]
      exact ⟨rfl, hz, rfl, (hS.callW hS').nil⟩
  · rw [bodyR6 _ hk]
    have g1 : (IntKind.u8.wrap k == 1) = false := by rw [hq8]; rw [hk]; rfl
    have g2 : (IntKind.u8.wrap k == 2) = false := by rw [hq8]; rw [hk]; rfl
    have g3 : (IntKind.u8.wrap k == 3) = false := by rw [hq8]; rw [hk]; rfl
    have g4 : (IntKind.u8.wrap k == 4) = false := by rw [hq8]; rw [hk]; rfl
    have g5 : (IntKind.u8.wrap k == 5) = false := by rw [hq8]; rw [hk]; rfl
    have g6 : (IntKind.u8.wrap k == 6) = true := by rw [hq8]; rw [hk]; rfl
    have g7 : (IntKind.u8.wrap k == 7) = false := by rw [hq8]; rw [hk]; rfl
    have g8 : (IntKind.u8.wrap k == 8) = false := by rw [hq8]; rw [hk]; rfl
    repeat ((conv => whnf); first | (apply q_i; focus (intro w1 hS; (conv => whnf); first | exact ⟨rfl, rfl⟩ | ((first | refine ld_f hS 0 rfl rfl ?_ | refine ld_f hS 1 rfl rfl ?_ | refine ld_f hS 2 rfl rfl ?_ | refine ldA_f hS 0 rfl rfl ?_ | refine ldA_f hS 1 rfl rfl ?_ | refine ldA_f hS 2 rfl rfl ?_); (conv => whnf); exact ⟨rfl, rfl⟩) | ((refine ldN_f hS 0 rfl (lb9 rfl) ?_); (conv => whnf); exact ⟨rfl, rfl⟩) | ((refine ldN_f hS 1 rfl (lb9 rfl) ?_); (conv => whnf); exact ⟨rfl, rfl⟩) | ((refine ldN_f hS 2 rfl (lb9 rfl) ?_); (conv => whnf); exact ⟨rfl, rfl⟩) | ((refine br_t (by assumption) ?_); (conv => whnf); exact ⟨rfl, rfl⟩) | ((refine br_f (by assumption) ?_); (conv => whnf); exact ⟨rfl, rfl⟩))) | (refine nw_f hS ?_; intro b w1 hS) | refine as_i hS ?_ | refine as_i (hS.subs (List.nil_sublist _) sb9) ?_ | refine as_i (hS.subs (List.Sublist.refl _) sb9) ?_ | refine bar_f hS ?_ | refine ld_f hS 0 rfl rfl ?_ | refine ld_f hS 1 rfl rfl ?_ | refine ld_f hS 2 rfl rfl ?_ | refine ldA_f hS 0 rfl rfl ?_ | refine ldA_f hS 1 rfl rfl ?_ | refine ldA_f hS 2 rfl rfl ?_ | ((first | refine stN_f hS 0 rfl (lb9 rfl) rfl rfl ?_ | refine stN_f hS 1 rfl (lb9 rfl) rfl rfl ?_ | refine stN_f hS 2 rfl (lb9 rfl) rfl rfl ?_ | refine stM_f hS 0 rfl (lb9 rfl) rfl ?_ | refine stM_f hS 1 rfl (lb9 rfl) rfl ?_ | refine stM_f hS 2 rfl (lb9 rfl) rfl ?_); (conv => whnf); intro w1 hS) | refine ldN_f hS 0 rfl (lb9 rfl) ?_ | refine ldN_f hS 1 rfl (lb9 rfl) ?_ | refine ldN_f hS 2 rfl (lb9 rfl) ?_ | refine br_t (by assumption) ?_ | refine br_f (by assumption) ?_ | (refine dr9 hS ?_; intro w1 hS) | refine br_t (by assumption) ?_ | refine br_f (by assumption) ?_)
    refine fp_p (number_c 4 (.inr (.inr rfl)) br _ _ hS.ownF) ?_ ?_
    · rintro v w3 ⟨hz, rfl, hS'⟩
      replace hS := hS.callW hS'
      repeat ((conv => whnf); first | (apply q_i; focus (intro w1 hS; (conv => whnf); first | exact ⟨rfl, rfl⟩ | ((first | refine ld_f hS 0 rfl rfl ?_ | refine ld_f hS 1 rfl rfl ?_ | refine ld_f hS 2 rfl rfl ?_ | refine ldA_f hS 0 rfl rfl ?_ | refine ldA_f hS 1 rfl rfl ?_ | refine ldA_f hS 2 rfl rfl ?_); (conv => whnf); exact ⟨rfl, rfl⟩) | ((refine ldN_f hS 0 rfl (lb9 rfl) ?_); (conv => whnf); exact ⟨rfl, rfl⟩) | ((refine ldN_f hS 1 rfl (lb9 rfl) ?_); (conv => whnf); exact ⟨rfl, rfl⟩) | ((refine ldN_f hS 2 rfl (lb9 rfl) ?_); (conv => whnf); exact ⟨rfl, rfl⟩) | ((refine br_t (by assumption) ?_); (conv => whnf); exact ⟨rfl, rfl⟩) | ((refine br_f (by assumption) ?_); (conv => whnf); exact ⟨rfl, rfl⟩))) | (refine nw_f hS ?_; intro b w1 hS) | refine as_i hS ?_ | refine as_i (hS.subs (List.nil_sublist _) sb9) ?_ | refine as_i (hS.subs (List.Sublist.refl _) sb9) ?_ | refine bar_f hS ?_ | refine ld_f hS 0 rfl rfl ?_ | refine ld_f hS 1 rfl rfl ?_ | refine ld_f hS 2 rfl rfl ?_ | refine ldA_f hS 0 rfl rfl ?_ | refine ldA_f hS 1 rfl rfl ?_ | refine ldA_f hS 2 rfl rfl ?_ | ((first | refine stN_f hS 0 rfl (lb9 rfl) rfl rfl ?_ | refine stN_f hS 1 rfl (lb9 rfl) rfl rfl ?_ | refine stN_f hS 2 rfl (lb9 rfl) rfl rfl ?_ | refine stM_f hS 0 rfl (lb9 rfl) rfl ?_ | refine stM_f hS 1 rfl (lb9 rfl) rfl ?_ | refine stM_f hS 2 rfl (lb9 rfl) rfl ?_); (conv => whnf); intro w1 hS) | refine ldN_f hS 0 rfl (lb9 rfl) ?_ | refine ldN_f hS 1 rfl (lb9 rfl) ?_ | refine ldN_f hS 2 rfl (lb9 rfl) ?_ | refine br_t (by assumption) ?_ | refine br_f (by assumption) ?_ | (refine dr9 hS ?_; intro w1 hS) | refine br_t (by assumption) ?_ | refine br_f (by assumption) ?_)
      rw [hq8]
      refine ⟨by assumption, noHd, [], [], fun w'' _ => mem_none _ w'' rfl rfl, rfl, ?_⟩
      have h := hS.fr (List.Sublist.refl _)
      rw [List.append_nil] at h
      exact h
    · rintro c w3 ⟨hz, rfl, hS'⟩
      (conv => whnf)
      exact ⟨rfl, hz, rfl, (hS.callW hS').nil⟩
  · rw [bodyR7 _ hk]
    have g1 : (IntKind.u8.wrap k == 1) = false := by rw [hq8]; rw [hk]; rfl
    have g2 : (IntKind.u8.wrap k == 2) = false := by rw [hq8]; rw [hk]; rfl
    have g3 : (IntKind.u8.wrap k == 3) = false := by rw [hq8]; rw [hk]; rfl
    have g4 : (IntKind.u8.wrap k == 4) = false := by rw [hq8]; rw [hk]; rfl
    have g5 : (IntKind.u8.wrap k == 5) = false := by rw [hq8]; rw [hk]; rfl
    have g6 : (IntKind.u8.wrap k == 6) = false := by rw [hq8]; rw [hk]; rfl
    have g7 : (IntKind.u8.wrap k == 7) = true := by rw [hq8]; rw [hk]; rfl
    have g8 : (IntKind.u8.wrap k == 8) = false := by rw [hq8]; rw [hk]; rfl
    repeat ((conv => whnf); first | (apply q_i; focus (intro w1 hS; (conv => whnf); first | exact ⟨rfl, rfl⟩ | ((first | refine ld_f hS 0 rfl rfl ?_ | refine ld_f hS 1 rfl rfl ?_ | refine ld_f hS 2 rfl rfl ?_ | refine ldA_f hS 0 rfl rfl ?_ | refine ldA_f hS 1 rfl rfl ?_ | refine ldA_f hS 2 rfl rfl ?_); (conv => whnf); exact ⟨rfl, rfl⟩) | ((refine ldN_f hS 0 rfl (lb9 rfl) ?_); (conv => whnf); exact ⟨rfl, rfl⟩) | ((refine ldN_f hS 1 rfl (lb9 rfl) ?_); (conv => whnf); exact ⟨rfl, rfl⟩) | ((refine ldN_f hS 2 rfl (lb9 rfl) ?_); (conv => whnf); exact ⟨rfl, rfl⟩) | ((refine br_t (by assumption) ?_); (conv => whnf); exact ⟨rfl, rfl⟩) | ((refine br_f (by assumption) ?_); (conv => whnf); exact ⟨rfl, rfl⟩))) | (refine nw_f hS ?_; intro b w1 hS) | refine as_i hS ?_ | refine as_i (hS.subs (List.nil_sublist _) sb9) ?_ | refine as_i (hS.subs (List.Sublist.refl _) sb9) ?_ | refine bar_f hS ?_ | refine ld_f hS 0 rfl rfl ?_ | refine ld_f hS 1 rfl rfl ?_ | refine ld_f hS 2 rfl rfl ?_ | refine ldA_f hS 0 rfl rfl ?_ | refine ldA_f hS 1 rfl rfl ?_ | refine ldA_f hS 2 rfl rfl ?_ | ((first | refine stN_f hS 0 rfl (lb9 rfl) rfl rfl ?_ | refine stN_f hS 1 rfl (lb9 rfl) rfl rfl ?_ | refine stN_f hS 2 rfl (lb9 rfl) rfl rfl ?_ | refine stM_f hS 0 rfl (lb9 rfl) rfl ?_ | refine stM_f hS 1 rfl (lb9 rfl) rfl ?_ | refine stM_f hS 2 rfl (lb9 rfl) rfl ?_); (conv => whnf); intro w1 hS) | refine ldN_f hS 0 rfl (lb9 rfl) ?_ | refine ldN_f hS 1 rfl (lb9 rfl) ?_ | refine ldN_f hS 2 rfl (lb9 rfl) ?_ | refine br_t (by assumption) ?_ | refine br_f (by assumption) ?_ | (refine dr9 hS ?_; intro w1 hS) | refine br_t (by assumption) ?_ | refine br_f (by assumption) ?_)
    refine fp_p (chunk18_c br _ _ hS.ownF) ?_ ?_
    · rintro v w3 ⟨hz, rfl, hS'⟩
      replace hS := hS.callW hS'
      repeat ((conv => whnf); first | (apply q_i; focus (intro w1 hS; (conv => whnf); first | exact ⟨rfl, rfl⟩ | ((first | refine ld_f hS 0 rfl rfl ?_ | refine ld_f hS 1 rfl rfl ?_ | refine ld_f hS 2 rfl rfl ?_ | refine ldA_f hS 0 rfl rfl ?_ | refine ldA_f hS 1 rfl rfl ?_ | refine ldA_f hS 2 rfl rfl ?_); (conv => whnf); exact ⟨rfl, rfl⟩) | ((refine ldN_f hS 0 rfl (lb9 rfl) ?_); (conv => whnf); exact ⟨rfl, rfl⟩) | ((refine ldN_f hS 1 rfl (lb9 rfl) ?_); (conv => whnf); exact ⟨rfl, rfl⟩) | ((refine ldN_f hS 2 rfl (lb9 rfl) ?_); (conv => whnf); exact ⟨rfl, rfl⟩) | ((refine br_t (by assumption) ?_); (conv => whnf); exact ⟨rfl, rfl⟩) | ((refine br_f (by assumption) ?_); (conv => whnf); exact ⟨rfl, rfl⟩))) | (refine nw_f hS ?_; intro b w1 hS) | refine as_i hS ?_ | refine as_i (hS.subs (List.nil_sublist _) sb9) ?_ | refine as_i (hS.subs (List.Sublist.refl _) sb9) ?_ | refine bar_f hS ?_ | refine ld_f hS 0 rfl rfl ?_ | refine ld_f hS 1 rfl rfl ?_ | refine ld_f hS 2 rfl rfl ?_ | refine ldA_f hS 0 rfl rfl ?_ | refine ldA_f hS 1 rfl rfl ?_ | refine ldA_f hS 2 rfl rfl ?_ | ((first | refine stN_f hS 0 rfl (lb9 rfl) rfl rfl ?_ | refine stN_f hS 1 rfl (lb9 rfl) rfl rfl ?_ | refine stN_f hS 2 rfl (lb9 rfl) rfl rfl ?_ | refine stM_f hS 0 rfl (lb9 rfl) rfl ?_ | refine stM_f hS 1 rfl (lb9 rfl) rfl ?_ | refine stM_f hS 2 rfl (lb9 rfl) rfl ?_); (conv => whnf); intro w1 hS) | refine ldN_f hS 0 rfl (lb9 rfl) ?_ | refine ldN_f hS 1 rfl (lb9 rfl) ?_ | refine ldN_f hS 2 rfl (lb9 rfl) ?_ | refine br_t (by assumption) ?_ | refine br_f (by assumption) ?_ | (refine dr9 hS ?_; intro w1 hS) | refine br_t (by assumption) ?_ | refine br_f (by assumption) ?_)
      rw [hq8]
      refine ⟨by assumption, noHd, [], [], fun w'' _ => mem_none _ w'' rfl rfl, rfl, ?_⟩
      have h := hS.fr (List.Sublist.refl _)
      rw [List.append_nil] at h
      exact h
    · rintro c w3 ⟨hz, rfl, hS'⟩
      (conv => whnf)
      exact ⟨rfl, hz, rfl, (hS.callW hS').nil⟩
  · rw [bodyR8 _ hk]
    have g1 : (IntKind.u8.wrap k == 1) = false := by rw [hq8]; rw [hk]; rfl
    have g2 : (IntKind.u8.wrap k == 2) = false := by rw [hq8]; rw [hk]; rfl
    have g3 : (IntKind.u8.wrap k == 3) = false := by rw [hq8]; rw [hk]; rfl
    have g4 : (IntKind.u8.wrap k == 4) = false := by rw [hq8]; rw [hk]; rfl
    have g5 : (IntKind.u8.wrap k == 5) = false := by rw [hq8]; rw [hk]; rfl
    have g6 : (IntKind.u8.wrap k == 6) = false := by rw [hq8]; rw [hk]; rfl
    have g7 : (IntKind.u8.wrap k == 7) = false := by rw [hq8]; rw [hk]; rfl
    have g8 : (IntKind.u8.wrap k == 8) = true := by rw [hq8]; rw [hk]; rfl
    repeat ((conv => whnf); first | (apply q_i; focus (intro w1 hS; (conv => whnf); first | exact ⟨rfl, rfl⟩ | ((first | refine ld_f hS 0 rfl rfl ?_ | refine ld_f hS 1 rfl rfl ?_ | refine ld_f hS 2 rfl rfl ?_ | refine ldA_f hS 0 rfl rfl ?_ | refine ldA_f hS 1 rfl rfl ?_ | refine ldA_f hS 2 rfl rfl ?_); (conv => whnf); exact ⟨rfl, rfl⟩) | ((refine ldN_f hS 0 rfl (lb9 rfl) ?_); (conv => whnf); exact ⟨rfl, rfl⟩) | ((refine ldN_f hS 1 rfl (lb9 rfl) ?_); (conv => whnf); exact ⟨rfl, rfl⟩) | ((refine ldN_f hS 2 rfl (lb9 rfl) ?_); (conv => whnf); exact ⟨rfl, rfl⟩) | ((refine br_t (by assumption) ?_); (conv => whnf); exact ⟨rfl, rfl⟩) | ((refine br_f (by assumption) ?_); (conv => whnf); exact ⟨rfl, rfl⟩))) | (refine nw_f hS ?_; intro b w1 hS) | refine as_i hS ?_ | refine as_i (hS.subs (List.nil_sublist _) sb9) ?_ | refine as_i (hS.subs (List.Sublist.refl _) sb9) ?_ | refine bar_f hS ?_ | refine ld_f hS 0 rfl rfl ?_ | refine ld_f hS 1 rfl rfl ?_ | refine ld_f hS 2 rfl rfl ?_ | refine ldA_f hS 0 rfl rfl ?_ | refine ldA_f hS 1 rfl rfl ?_ | refine ldA_f hS 2 rfl rfl ?_ | ((first | refine stN_f hS 0 rfl (lb9 rfl) rfl rfl ?_ | refine stN_f hS 1 rfl (lb9 rfl) rfl rfl ?_ | refine stN_f hS 2 rfl (lb9 rfl) rfl rfl ?_ | refine stM_f hS 0 rfl (lb9 rfl) rfl ?_ | refine stM_f hS 1 rfl (lb9 rfl) rfl ?_ | refine stM_f hS 2 rfl (lb9 rfl) rfl ?_); (conv => whnf); intro w1 hS) | refine ldN_f hS 0 rfl (lb9 rfl) ?_ | refine ldN_f hS 1 rfl (lb9 rfl) ?_ | refine ldN_f hS 2 rfl (lb9 rfl) ?_ | refine br_t (by assumption) ?_ | refine br_f (by assumption) ?_ | (refine dr9 hS ?_; intro w1 hS) | refine br_t (by assumption) ?_ | refine br_f (by assumption) ?_)
    refine fp_p (number_c 1 (.inl rfl) br _ _ hS.ownF) ?_ ?_
    · rintro v w3 ⟨hz, rfl, hS'⟩
      replace hS := hS.callW hS'
      repeat ((conv => whnf); first | (apply q_i; focus (intro w1 hS; (conv => whnf); first | exact ⟨rfl, rfl⟩ | ((first | refine ld_f hS 0 rfl rfl ?_ | refine ld_f hS 1 rfl rfl ?_ | refine ld_f hS 2 rfl rfl ?_ | refine ldA_f hS 0 rfl rfl ?_ | refine ldA_f hS 1 rfl rfl ?_ | refine ldA_f hS 2 rfl rfl ?_); (conv => whnf); exact ⟨rfl, rfl⟩) | ((refine ldN_f hS 0 rfl (lb9 rfl) ?_); (conv => whnf); exact ⟨rfl, rfl⟩) | ((refine ldN_f hS 1 rfl (lb9 rfl) ?_); (conv => whnf); exact ⟨rfl, rfl⟩) | ((refine ldN_f hS 2 rfl (lb9 rfl) ?_); (conv => whnf); exact ⟨rfl, rfl⟩) | ((refine br_t (by assumption) ?_); (conv => whnf); exact ⟨rfl, rfl⟩) | ((refine br_f (by assumption) ?_); (conv => whnf); exact ⟨rfl, rfl⟩))) | (refine nw_f hS ?_; intro b w1 hS) | refine as_i hS ?_ | refine as_i (hS.subs (List.nil_sublist _) sb9) ?_ | refine as_i (hS.subs (List.Sublist.refl _) sb9) ?_ | refine bar_f hS ?_ | refine ld_f hS 0 rfl rfl ?_ | refine ld_f hS 1 rfl rfl ?_ | refine ld_f hS 2 rfl rfl ?_ | refine ldA_f hS 0 rfl rfl ?_ | refine ldA_f hS 1 rfl rfl ?_ | refine ldA_f hS 2 rfl rfl ?_ | ((first | refine stN_f hS 0 rfl (lb9 rfl) rfl rfl ?_ | refine stN_f hS 1 rfl (lb9 rfl) rfl rfl ?_ | refine stN_f hS 2 rfl (lb9 rfl) rfl rfl ?_ | refine stM_f hS 0 rfl (lb9 rfl) rfl ?_ | refine stM_f hS 1 rfl (lb9 rfl) rfl ?_ | refine stM_f hS 2 rfl (lb9 rfl) rfl ?_); (conv => whnf); intro w1 hS) | refine ldN_f hS 0 rfl (lb9 rfl) ?_ | refine ldN_f hS 1 rfl (lb9 rfl) ?_ | refine ldN_f hS 2 rfl (lb9 rfl) ?_ | refine br_t (by assumption) ?_ | refine br_f (by assumption) ?_ | (refine dr9 hS ?_; intro w1 hS) | refine br_t (by assumption) ?_ | refine br_f (by assumption) ?_)
      refine fp_p (path18_c br _ _ hS.ownF) ?_ ?_
      · rintro v w3 ⟨hz, rfl, hS'⟩
        replace hS := hS.callW hS'
        repeat ((conv => whnf); first | (apply q_i; focus (intro w1 hS; (conv => whnf); first | exact ⟨rfl, rfl⟩ | ((first | refine ld_f hS 0 rfl rfl ?_ | refine ld_f hS 1 rfl rfl ?_ | refine ld_f hS 2 rfl rfl ?_ | refine ldA_f hS 0 rfl rfl ?_ | refine ldA_f hS 1 rfl rfl ?_ | refine ldA_f hS 2 rfl rfl ?_); (conv => whnf); exact ⟨rfl, rfl⟩) | ((refine ldN_f hS 0 rfl (lb9 rfl) ?_); (conv => whnf); exact ⟨rfl, rfl⟩) | ((refine ldN_f hS 1 rfl (lb9 rfl) ?_); (conv => whnf); exact ⟨rfl, rfl⟩) | ((refine ldN_f hS 2 rfl (lb9 rfl) ?_); (conv => whnf); exact ⟨rfl, rfl⟩) | ((refine br_t (by assumption) ?_); (conv => whnf); exact ⟨rfl, rfl⟩) | ((refine br_f (by assumption) ?_); (conv => whnf); exact ⟨rfl, rfl⟩))) | (refine nw_f hS ?_; intro b w1 hS) | refine as_i hS ?_ | refine as_i (hS.subs (List.nil_sublist _) sb9) ?_ | refine as_i (hS.subs (List.Sublist.refl _) sb9) ?_ | refine bar_f hS ?_ | refine ld_f hS 0 rfl rfl ?_ | refine ld_f hS 1 rfl rfl ?_ | refine ld_f hS 2 rfl rfl ?_ | refine ldA_f hS 0 rfl rfl ?_ | refine ldA_f hS 1 rfl rfl ?_ | refine ldA_f hS 2 rfl rfl ?_ | ((first | refine stN_f hS 0 rfl (lb9 rfl) rfl rfl ?_ | refine stN_f hS 1 rfl (lb9 rfl) rfl rfl ?_ | refine stN_f hS 2 rfl (lb9 rfl) rfl rfl ?_ | refine stM_f hS 0 rfl (lb9 rfl) rfl ?_ | refine stM_f hS 1 rfl (lb9 rfl) rfl ?_ | refine stM_f hS 2 rfl (lb9 rfl) rfl ?_); (conv => whnf); intro w1 hS) | refine ldN_f hS 0 rfl (lb9 rfl) ?_ | refine ldN_f hS 1 rfl (lb9 rfl) ?_ | refine ldN_f hS 2 rfl (lb9 rfl) ?_ | refine br_t (by assumption) ?_ | refine br_f (by assumption) ?_ | (refine dr9 hS ?_; intro w1 hS) | refine br_t (by assumption) ?_ | refine br_f (by assumption) ?_)
        refine fp_p (vec18_c br _ _ hS.ownF) ?_ ?_
        · rintro v w3 ⟨hz, rfl, hS'⟩
          replace hS := hS.callW hS'
          repeat ((conv => whnf); first | (apply q_i; focus (intro w1 hS; (conv => whnf); first | exact ⟨rfl, rfl⟩ | ((first | refine ld_f hS 0 rfl rfl ?_ | refine ld_f hS 1 rfl rfl ?_ | refine ld_f hS 2 rfl rfl ?_ | refine ldA_f hS 0 rfl rfl ?_ | refine ldA_f hS 1 rfl rfl ?_ | refine ldA_f hS 2 rfl rfl ?_); (conv => whnf); exact ⟨rfl, rfl⟩) | ((refine ldN_f hS 0 rfl (lb9 rfl) ?_); (conv => whnf); exact ⟨rfl, rfl⟩) | ((refine ldN_f hS 1 rfl (lb9 rfl) ?_); (conv => whnf); exact ⟨rfl, rfl⟩) | ((refine ldN_f hS 2 rfl (lb9 rfl) ?_); (conv => whnf); exact ⟨rfl, rfl⟩) | ((refine br_t (by assumption) ?_); (conv => whnf); exact ⟨rfl, rfl⟩) | ((refine br_f (by assumption) ?_); (conv => whnf); exact ⟨rfl, rfl⟩))) | (refine nw_f hS ?_; intro b w1 hS) | refine as_i hS ?_ | refine as_i (hS.subs (List.nil_sublist _) sb9) ?_ | refine as_i (hS.subs (List.Sublist.refl _) sb9) ?_ | refine bar_f hS ?_ | refine ld_f hS 0 rfl rfl ?_ | refine ld_f hS 1 rfl rfl ?_ | refine ld_f hS 2 rfl rfl ?_ | refine ldA_f hS 0 rfl rfl ?_ | refine ldA_f hS 1 rfl rfl ?_ | refine ldA_f hS 2 rfl rfl ?_ | ((first | refine stN_f hS 0 rfl (lb9 rfl) rfl rfl ?_ | refine stN_f hS 1 rfl (lb9 rfl) rfl rfl ?_ | refine stN_f hS 2 rfl (lb9 rfl) rfl rfl ?_ | refine stM_f hS 0 rfl (lb9 rfl) rfl ?_ | refine stM_f hS 1 rfl (lb9 rfl) rfl ?_ | refine stM_f hS 2 rfl (lb9 rfl) rfl ?_); (conv => whnf); intro w1 hS) | refine ldN_f hS 0 rfl (lb9 rfl) ?_ | refine ldN_f hS 1 rfl (lb9 rfl) ?_ | refine ldN_f hS 2 rfl (lb9 rfl) ?_ | refine br_t (by assumption) ?_ | refine br_f (by assumption) ?_ | (refine dr9 hS ?_; intro w1 hS) | refine br_t (by assumption) ?_ | refine br_f (by assumption) ?_)
          rw [hq8, q8]
          refine ⟨by assumption, noHd, [], [], fun w'' _ => mem_none _ w'' rfl rfl, rfl, ?_⟩
          have h := hS.fr (List.Sublist.refl _)
          rw [List.append_nil] at h
          exact h
        · rintro c w3 ⟨hz, rfl, hS'⟩
          (conv => whnf)
          exact ⟨rfl, hz, rfl, (hS.callW hS').nil⟩
      · rintro c w3 ⟨hz, rfl, hS'⟩
        (conv => whnf)
        rw [vecR_err hz]
        exact ⟨rfl, hz, rfl, (hS.callW hS').nil⟩
    · rintro c w3 ⟨hz, rfl, hS'⟩
      (conv => whnf)
      rw [vecR_err (by rw [pthR_err hz]; exact hz), pthR_err hz]
      exact ⟨rfl, hz, rfl, (hS.callW hS').nil⟩
  · rw [bodyR9 _ hk]
    have g1 : (IntKind.u8.wrap k == 1) = false := by rw [hq8]; simp; omega
    have g2 : (IntKind.u8.wrap k == 2) = false := by rw [hq8]; simp; omega
    have g3 : (IntKind.u8.wrap k == 3) = false := by rw [hq8]; simp; omega
    have g4 : (IntKind.u8.wrap k == 4) = false := by rw [hq8]; simp; omega
    have g5 : (IntKind.u8.wrap k == 5) = false := by rw [hq8]; simp; omega
    have g6 : (IntKind.u8.wrap k == 6) = false := by rw [hq8]; simp; omega
    have g7 : (IntKind.u8.wrap k == 7) = false := by rw [hq8]; simp; omega
    have g8 : (IntKind.u8.wrap k == 8) = false := by rw [hq8]; simp; omega
    repeat ((conv => whnf); first | (apply q_i; focus (intro w1 hS; (conv => whnf); first | exact ⟨rfl, rfl⟩ | ((first | refine ld_f hS 0 rfl rfl ?_ | refine ld_f hS 1 rfl rfl ?_ | refine ld_f hS 2 rfl rfl ?_ | refine ldA_f hS 0 rfl rfl ?_ | refine ldA_f hS 1 rfl rfl ?_ | refine ldA_f hS 2 rfl rfl ?_); (conv => whnf); exact ⟨rfl, rfl⟩) | ((refine ldN_f hS 0 rfl (lb9 rfl) ?_); (conv => whnf); exact ⟨rfl, rfl⟩) | ((refine ldN_f hS 1 rfl (lb9 rfl) ?_); (conv => whnf); exact ⟨rfl, rfl⟩) | ((refine ldN_f hS 2 rfl (lb9 rfl) ?_); (conv => whnf); exact ⟨rfl, rfl⟩) | ((refine br_t (by assumption) ?_); (conv => whnf); exact ⟨rfl, rfl⟩) | ((refine br_f (by assumption) ?_); (conv => whnf); exact ⟨rfl, rfl⟩))) | (refine nw_f hS ?_; intro b w1 hS) | refine as_i hS ?_ | refine as_i (hS.subs (List.nil_sublist _) sb9) ?_ | refine as_i (hS.subs (List.Sublist.refl _) sb9) ?_ | refine bar_f hS ?_ | refine ld_f hS 0 rfl rfl ?_ | refine ld_f hS 1 rfl rfl ?_ | refine ld_f hS 2 rfl rfl ?_ | refine ldA_f hS 0 rfl rfl ?_ | refine ldA_f hS 1 rfl rfl ?_ | refine ldA_f hS 2 rfl rfl ?_ | ((first | refine stN_f hS 0 rfl (lb9 rfl) rfl rfl ?_ | refine stN_f hS 1 rfl (lb9 rfl) rfl rfl ?_ | refine stN_f hS 2 rfl (lb9 rfl) rfl rfl ?_ | refine stM_f hS 0 rfl (lb9 rfl) rfl ?_ | refine stM_f hS 1 rfl (lb9 rfl) rfl ?_ | refine stM_f hS 2 rfl (lb9 rfl) rfl ?_); (conv => whnf); intro w1 hS) | refine ldN_f hS 0 rfl (lb9 rfl) ?_ | refine ldN_f hS 1 rfl (lb9 rfl) ?_ | refine ldN_f hS 2 rfl (lb9 rfl) ?_ | refine br_t (by assumption) ?_ | refine br_f (by assumption) ?_ | (refine dr9 hS ?_; intro w1 hS) | refine br_t (by assumption) ?_ | refine br_f (by assumption) ?_)
    refine mi_i (v := .agg #[.int .i64 4]) rfl Tryz.underlying75 rfl rfl ?_
    (conv => whnf)
    rw [if_neg (by rw [he]; decide)]
    exact ⟨rfl, (by show (4 : Int) ≠ 0; decide), rfl, hS.nil⟩
end Go.RV


set_option maxRecDepth 20000
set_option linter.unusedVariables false
set_option linter.unusedSimpArgs false
namespace Go.RV
open Go Go.Proofs Go.RowKit

theorem ta_i {P : Program} {o : Oper} {ρ : Operand → Value} {x : Operand} {xt t : TypeId} {d : TypeDesc} {v : Value} {w : World} (ho : o.op = .typeAssert x xt t true) (hu : P.underlying t = some d) (hd : (match d with | .interface _ => false | _ => true) = true) (hv : ρ x = .iface t v) {K : Value → World → Prop} (k : K (.tuple #[v, .bool true]) w) :
    SemN P (execOp ρ o) w (NextW P K) := by
  refine ⟨SemW.of_run (a := .value (.tuple #[v, .bool true])) (w' := w) ?_ k⟩
  unfold execOp
  rw [ho]
  simp only [Sem.run_bind, hv]
  unfold Instr.typeAssert
  rw [Sem.run_bind, run_underlying hu]
  cases d <;> simp_all
def sliO (v : Value) : Obj := .cells #[v] 23 (0, 0)
def errO (e : Int) : Obj := .cells #[.int .i64 e] 24 (0, 0)
def catQ (R : World → Prop) : Post := fun e _ ds w => match e with
  | .normal => ds = [] ∧ R w
  | .ret => ds = [] ∧ R w
  | _ => Stk "left"
theorem res27 (fr : Fr) (w : World) : (results Tryz.f27 fr.toArray).run Tryz.prog w = .ok (.tuple #[]) w := by
  obtain ⟨v, hr, rfl⟩ := retK_ok (P := Tryz.prog) TB_ok (fn := Tryz.f27) (fr := fr) (w := w) (K := fun v => v = .tuple #[]) (show retK TB [] fr w (fun v => v = .tuple #[]) from rfl)
  exact hr
theorem catchN_c (ba be : Nat) (w : World) :
    CallsDIn Fence.wide 0 Tryz.prog 27 #[.pointer (some ⟨ba, 0, none⟩), .pointer (some ⟨be, 0, none⟩)] .returning w fun E u' w' => E = .returned (.tuple #[]) ∧ u' = .returning ∧ St [] w w' [] := by
  refine callsDIn_of_wpSIn Tryz.func27 rfl trivial fun c₀ cs hu => ?_
  apply wpSIn_seq
  apply wpSIn_region
  simp [wpOpsSIn, go_sem, recoverD, hu, Exit.thenS]
  refine wpSIn_of_wpIn rfl ?_
  have et : (#[Value.pointer (some ⟨ba, 0, none⟩), Value.pointer (some ⟨be, 0, none⟩)] ++ (Array.replicate 11 undef).setIfInBounds 3 Value.nilIface : Array Value) = ([Value.pointer (some ⟨ba, 0, none⟩), Value.pointer (some ⟨be, 0, none⟩), undef, undef, undef, Value.nilIface, undef, undef, undef, undef, undef, undef, undef] : Fr).toArray := rfl
  rw [et]
  refine wpIn_mono ((XP_ok TB_ok none _ (Q := catQ fun w' => St [] w w' []) ?_).out 0) ?_
  · have hS := Sf.refl w
    repeat ((conv => whnf); first | (apply q_i; focus (intro w1 hS; (conv => whnf); first | exact ⟨rfl, rfl⟩)) | (refine nw_f hS ?_; intro b w1 hS) | refine as_i hS ?_ | refine as_i (hS.subs (List.nil_sublist _) sb9) ?_ | refine as_i (hS.subs (List.Sublist.refl _) sb9) ?_ | refine bar_f hS ?_ | (refine dr9 hS ?_; intro w1 hS) | refine br_t (by assumption) ?_ | refine br_f (by assumption) ?_)
    exact ⟨rfl, hS.nil⟩
  · rintro e a' w' ⟨fr, ds, rfl, hq⟩
    have hc0 : c₀ :: cs = { c₀ with mode := .returning } :: cs := by rw [← hu]
    cases e with
    | normal =>
      obtain ⟨rfl, h⟩ := hq
      exact ⟨rfl, _, hc0, _, res27 fr _, rfl, rfl, h⟩
    | ret =>
      obtain ⟨rfl, h⟩ := hq
      exact ⟨rfl, _, hc0, _, res27 fr _, rfl, rfl, h⟩
    | _ => exact Stk.elim hq
theorem catchP_c (ba be : Nat) (sv : Value) (e0 e : Int) (w : World) (hS : St [ba, be] w w [(ba, sliO sv), (be, errO e0)]) :
    CallsDIn Fence.wide 0 Tryz.prog 27 #[.pointer (some ⟨ba, 0, none⟩), .pointer (some ⟨be, 0, none⟩)] (.panicking [wrongE e]) w fun E u' w' => E = .returned (.tuple #[]) ∧ u' = .panicking [{ wrongE e with recovered := true }] ∧ St [ba, be] w w' [(ba, sliO (.slice none 0 0)), (be, errO e)] := by
  refine callsDIn_of_wpSIn Tryz.func27 rfl trivial fun c₀ cs hu => ?_
  apply wpSIn_seq
  apply wpSIn_region
  simp [wpOpsSIn, go_sem, recoverD, hu, Exit.thenS, wrongE]
  refine wpSIn_of_wpIn rfl ?_
  have et : (#[Value.pointer (some ⟨ba, 0, none⟩), Value.pointer (some ⟨be, 0, none⟩)] ++ (Array.replicate 11 undef).setIfInBounds 3 (Value.iface 75 (.agg #[.int .i64 e])) : Array Value) = ([Value.pointer (some ⟨ba, 0, none⟩), Value.pointer (some ⟨be, 0, none⟩), undef, undef, undef, Value.iface 75 (.agg #[.int .i64 e]), undef, undef, undef, undef, undef, undef, undef] : Fr).toArray := rfl
  rw [et]
  refine wpIn_mono ((XP_ok TB_ok none _ (Q := catQ fun w' => St [ba, be] w w' [(ba, sliO (.slice none 0 0)), (be, errO e)]) ?_).out 0) ?_
  · have hS : Sf [ba, be] w w [] [(ba, .cells #[sv] 23 (0, 0)), (be, .cells #[.int .i64 e0] 24 (0, 0))] := ⟨hS⟩
    repeat ((conv => whnf); first | (apply q_i; focus (intro w1 hS; (conv => whnf); first | exact ⟨rfl, rfl⟩ | ((first | refine ld_f hS 0 rfl rfl ?_ | refine ld_f hS 1 rfl rfl ?_ | refine ld_f hS 2 rfl rfl ?_ | refine ldA_f hS 0 rfl rfl ?_ | refine ldA_f hS 1 rfl rfl ?_ | refine ldA_f hS 2 rfl rfl ?_); (conv => whnf); exact ⟨rfl, rfl⟩))) | (refine nw_f hS ?_; intro b w1 hS) | refine as_i hS ?_ | refine as_i (hS.subs (List.nil_sublist _) sb9) ?_ | refine as_i (hS.subs (List.Sublist.refl _) sb9) ?_ | refine bar_f hS ?_ | refine ld_f hS 0 rfl rfl ?_ | refine ld_f hS 1 rfl rfl ?_ | refine ld_f hS 2 rfl rfl ?_ | refine ldA_f hS 0 rfl rfl ?_ | refine ldA_f hS 1 rfl rfl ?_ | refine ldA_f hS 2 rfl rfl ?_ | ((first | refine stN_f hS 0 rfl (lb9 rfl) rfl rfl ?_ | refine stN_f hS 1 rfl (lb9 rfl) rfl rfl ?_ | refine stN_f hS 2 rfl (lb9 rfl) rfl rfl ?_ | refine stM_f hS 0 rfl (lb9 rfl) rfl ?_ | refine stM_f hS 1 rfl (lb9 rfl) rfl ?_ | refine stM_f hS 2 rfl (lb9 rfl) rfl ?_); (conv => whnf); intro w1 hS) | refine br_t (by assumption) ?_ | refine br_f (by assumption) ?_)
    (conv => whnf)
    refine ta_i (v := .agg #[.int .i64 e]) rfl Tryz.underlying75 rfl rfl ?_
    repeat ((conv => whnf); first | (apply q_i; focus (intro w1 hS; (conv => whnf); first | exact ⟨rfl, rfl⟩ | ((first | refine ld_f hS 0 rfl rfl ?_ | refine ld_f hS 1 rfl rfl ?_ | refine ld_f hS 2 rfl rfl ?_ | refine ldA_f hS 0 rfl rfl ?_ | refine ldA_f hS 1 rfl rfl ?_ | refine ldA_f hS 2 rfl rfl ?_); (conv => whnf); exact ⟨rfl, rfl⟩))) | (refine nw_f hS ?_; intro b w1 hS) | refine as_i hS ?_ | refine as_i (hS.subs (List.nil_sublist _) sb9) ?_ | refine as_i (hS.subs (List.Sublist.refl _) sb9) ?_ | refine bar_f hS ?_ | refine ld_f hS 0 rfl rfl ?_ | refine ld_f hS 1 rfl rfl ?_ | refine ld_f hS 2 rfl rfl ?_ | refine ldA_f hS 0 rfl rfl ?_ | refine ldA_f hS 1 rfl rfl ?_ | refine ldA_f hS 2 rfl rfl ?_ | ((first | refine stN_f hS 0 rfl (lb9 rfl) rfl rfl ?_ | refine stN_f hS 1 rfl (lb9 rfl) rfl rfl ?_ | refine stN_f hS 2 rfl (lb9 rfl) rfl rfl ?_ | refine stM_f hS 0 rfl (lb9 rfl) rfl ?_ | refine stM_f hS 1 rfl (lb9 rfl) rfl ?_ | refine stM_f hS 2 rfl (lb9 rfl) rfl ?_); (conv => whnf); intro w1 hS) | refine br_t (by assumption) ?_ | refine br_f (by assumption) ?_)
    refine drawfP (Ls := [_]) TB_ok rfl (by kernel_rfl) (by kernel_rfl) hS (List.Sublist.refl _) (.cons_cons _ (.cons _ (.cons _ (.refl _)))) (fun c fr fr' w h => h) ?_
    intro w1 hS
    repeat ((conv => whnf); first | (apply q_i; focus (intro w1 hS; (conv => whnf); first | exact ⟨rfl, rfl⟩ | ((first | refine ld_f hS 0 rfl rfl ?_ | refine ld_f hS 1 rfl rfl ?_ | refine ld_f hS 2 rfl rfl ?_ | refine ldA_f hS 0 rfl rfl ?_ | refine ldA_f hS 1 rfl rfl ?_ | refine ldA_f hS 2 rfl rfl ?_); (conv => whnf); exact ⟨rfl, rfl⟩))) | (refine nw_f hS ?_; intro b w1 hS) | refine as_i hS ?_ | refine as_i (hS.subs (List.nil_sublist _) sb9) ?_ | refine as_i (hS.subs (List.Sublist.refl _) sb9) ?_ | refine bar_f hS ?_ | refine ld_f hS 0 rfl rfl ?_ | refine ld_f hS 1 rfl rfl ?_ | refine ld_f hS 2 rfl rfl ?_ | refine ldA_f hS 0 rfl rfl ?_ | refine ldA_f hS 1 rfl rfl ?_ | refine ldA_f hS 2 rfl rfl ?_ | ((first | refine stN_f hS 0 rfl (lb9 rfl) rfl rfl ?_ | refine stN_f hS 1 rfl (lb9 rfl) rfl rfl ?_ | refine stN_f hS 2 rfl (lb9 rfl) rfl rfl ?_ | refine stM_f hS 0 rfl (lb9 rfl) rfl ?_ | refine stM_f hS 1 rfl (lb9 rfl) rfl ?_ | refine stM_f hS 2 rfl (lb9 rfl) rfl ?_); (conv => whnf); intro w1 hS) | refine br_t (by assumption) ?_ | refine br_f (by assumption) ?_)
    exact ⟨rfl, hS.sub (.cons _ (.refl _))⟩
  · rintro e a' w' ⟨fr, ds, rfl, hq⟩
    cases e with
    | normal =>
      obtain ⟨rfl, h⟩ := hq
      exact ⟨rfl, _, rfl, _, res27 fr _, rfl, rfl, h⟩
    | ret =>
      obtain ⟨rfl, h⟩ := hq
      exact ⟨rfl, _, rfl, _, res27 fr _, rfl, rfl, h⟩
    | _ => exact Stk.elim hq
end Go.RV


set_option maxRecDepth 20000
set_option linter.unusedVariables false
set_option linter.unusedSimpArgs false
namespace Go.RV
open Go Go.Proofs Go.RowKit

theorem fix_suf (s : RS) (n : Int) : (fixedR s n).2.rest <:+ s.rest := by
  unfold fixedR
  split
  · exact List.suffix_refl _
  · split
    · exact List.nil_suffix
    · exact List.drop_suffix _ _
theorem aftW_suf (W : Nat) (s : RS) : (aftW W s).rest <:+ s.rest := fix_suf s W
theorem tellS_suf (s : RS) : (tellS s).1.rest <:+ s.rest := by
  unfold tellS
  split
  · exact (fix_suf _ _).trans (fix_suf _ _)
  · exact fix_suf _ _
theorem ridN_suf (s : RS) : ∀ k, (ridN s k).2.rest <:+ s.rest
  | 0 => List.suffix_refl _
  | k+1 => (fix_suf _ _).trans (ridN_suf s k)
theorem vaR_suf (s : RS) : (vaR s).1.rest <:+ s.rest := by
  unfold vaR
  simp only
  split
  · exact List.nil_suffix
  · unfold valR
    split
    · exact tellS_suf s
    · exact (ridN_suf _ _).trans (tellS_suf s)
theorem tk2_suf (q : Int) (s : RS) : ∀ k, (tk2 q s k).1.rest <:+ s.rest
  | 0 => List.suffix_refl _
  | k+1 => by
    rw [tk2]
    split
    · exact (fix_suf _ _).trans (tk2_suf q s k)
    · exact tk2_suf q s k
theorem vecR_suf (s : RS) : (vecR s).1.rest <:+ s.rest := (tk2_suf _ _ 8).trans (aftW_suf 1 s)
theorem sbR_suf (s : RS) : (sbR s).1.rest <:+ s.rest := (vaR_suf _).trans ((aftW_suf 2 _).trans (aftW_suf 1 s))
theorem sbsR_suf (s : RS) : ∀ k, (sbsR s k).1.rest <:+ s.rest
  | 0 => List.suffix_refl _
  | k+1 => by
    rw [sbsR]
    split
    · exact sbsR_suf s k
    · exact (sbR_suf _).trans (sbsR_suf s k)
theorem pthR_suf (s : RS) : (pthR s).1.rest <:+ s.rest := (fix_suf _ _).trans (aftW_suf 1 s)
theorem regR_suf (s : RS) : (regR s).1.rest <:+ s.rest := (sbsR_suf _ _).trans ((aftW_suf 1 _).trans (vecR_suf s))
theorem verR_suf (s : RS) : (verR s).1.rest <:+ s.rest := (vaR_suf _).trans ((aftW_suf 1 _).trans ((aftW_suf 4 _).trans (aftW_suf 4 s)))
theorem chkR_suf (s : RS) : (chkR s).1.rest <:+ s.rest := (aftW_suf 1 _).trans ((aftW_suf 2 _).trans ((aftW_suf 2 _).trans (aftW_suf 4 s)))
theorem bodyR_suf (k : Int) (s : RS) : (bodyR k s).1.rest <:+ s.rest := by
  rcases kinds k with hk | hk | hk | hk | hk | hk | hk | hk | hk
  · rw [bodyR1 s hk]; exact aftW_suf 1 s
  · rw [bodyR2 s hk]; exact (aftW_suf 4 _).trans ((aftW_suf 4 _).trans (aftW_suf 4 s))
  · rw [bodyR3 s hk]; exact (aftW_suf 4 _).trans ((aftW_suf 4 _).trans (aftW_suf 1 s))
  · rw [bodyR4 s hk]; exact (regR_suf _).trans (pthR_suf s)
  · rw [bodyR5 s hk]; exact (verR_suf _).trans (pthR_suf s)
  · rw [bodyR6 s hk]; exact aftW_suf 4 s
  · rw [bodyR7 s hk]; exact chkR_suf s
  · rw [bodyR8 s hk]; exact (vecR_suf _).trans ((pthR_suf _).trans (aftW_suf 1 s))
  · rw [bodyR9 s hk]
    simp only
    split
    · exact List.suffix_refl _
    · exact List.nil_suffix
theorem numW_zero {W : Nat} {s : RS} (h : (aftW W s).e ≠ 0) : numW W s = 0 := by
  unfold aftW at h
  unfold numW
  rw [fixedR_e h]
  rfl
theorem oneR_kind {s : RS} (h : (aftW 1 s).e ≠ 0) : (oneR s).1 = aftW 1 s := by
  unfold oneR
  rw [bodyR9 _ (by rw [numW_zero h]; decide), if_pos h]
theorem oneR_suf (s : RS) : (oneR s).1.rest <:+ (aftW 1 s).rest := bodyR_suf _ _
theorem oneR_less {r : List UInt8} (h : (oneR ⟨r, 0⟩).1.e = 0) : (oneR ⟨r, 0⟩).1.rest.length < r.length := by
  have h1 : (aftW 1 ⟨r, 0⟩).e = 0 := by
    by_cases h2 : (aftW 1 ⟨r, 0⟩).e = 0
    · exact h2
    · rw [oneR_kind h2] at h; exact absurd h h2
  have h2 := (oneR_suf ⟨r, 0⟩).length_le
  have h3 : (aftW 1 ⟨r, 0⟩).rest.length < r.length := by
    unfold aftW fixedR at h1 ⊢
    rw [if_neg (by simp)] at h1 ⊢
    by_cases h4 : ((⟨r, 0⟩ : RS).rest.length : Int) < ((1 : Nat) : Int)
    · rw [if_pos h4] at h1; cases h1
    · rw [if_neg h4]
      simp only at h4 ⊢
      rw [List.length_drop]
      simp
      omega
  omega
theorem oneR_tail {r : List UInt8} : r.take (r.length - (oneR ⟨r, 0⟩).1.rest.length) ++ (oneR ⟨r, 0⟩).1.rest = r := by
  have h : (oneR ⟨r, 0⟩).1.rest <:+ r := (oneR_suf ⟨r, 0⟩).trans (aftW_suf 1 ⟨r, 0⟩)
  obtain ⟨t, ht⟩ := h
  generalize (oneR ⟨r, 0⟩).1.rest = q at *
  subst ht
  simp
theorem takeF_more : ∀ (f g : Nat) (r : List UInt8) (acc : List Rx), r.length < f → r.length < g → takeF f r acc = takeF g r acc
  | 0, _, r, _, h, _ => by omega
  | _, 0, r, _, _, h => by omega
  | f+1, g+1, r, acc, hf, hg => by
    rw [takeF, takeF]
    split
    · rfl
    · split
      · rfl
      · rename_i he
        split
        · rfl
        · split
          · rfl
          · have := oneR_less (r := r) (by simpa using he)
            exact takeF_more f g _ _ (by omega) (by omega)
def takeA (r : List UInt8) (acc : List Rx) : List Rx × Int := takeF (r.length + 1) r acc
theorem takeA_nil (acc : List Rx) : takeA [] acc = (acc, 0) := by unfold takeA; rw [takeF, if_pos rfl]
theorem takeA_cons {r : List UInt8} (h : r ≠ []) (acc : List Rx) : takeA r acc = if (oneR ⟨r, 0⟩).1.e ≠ 0 then ([], (oneR ⟨r, 0⟩).1.e)
    else if checkR (oneR ⟨r, 0⟩).2 = false then ([], 4) else if recT (oneR ⟨r, 0⟩).2 ≠ r.take (r.length - (oneR ⟨r, 0⟩).1.rest.length) then ([], 4)
    else takeA (oneR ⟨r, 0⟩).1.rest (acc ++ [(oneR ⟨r, 0⟩).2]) := by
  unfold takeA
  rw [takeF, if_neg h]
  split
  · rfl
  · rename_i he
    split
    · rfl
    · split
      · rfl
      · have := oneR_less (r := r) (by simpa using he)
        exact takeF_more _ _ _ _ (by omega) (by omega)
theorem num_le (W : Nat) (s : RS) (h : W ≤ 4) : 0 ≤ numW W s ∧ numW W s ≤ 4294967295 := by
  have := numW_lt W s
  have hp : (256 : Int) ^ W ≤ 4294967296 := by
    rcases (show W = 0 ∨ W = 1 ∨ W = 2 ∨ W = 3 ∨ W = 4 by omega) with h | h | h | h | h <;> subst h <;> decide
  omega
theorem num1_le (s : RS) : 0 ≤ numW 1 s ∧ numW 1 s ≤ 255 := by
  have := numW_lt 1 s
  have hp : (256 : Int) ^ 1 = 256 := by decide
  omega
theorem num2_le (s : RS) : 0 ≤ numW 2 s ∧ numW 2 s ≤ 65535 := by
  have := numW_lt 2 s
  have hp : (256 : Int) ^ 2 = 65536 := by decide
  omega
theorem vec_le (s : RS) : ∀ j, j < 8 → 0 ≤ (vecR s).2 j ∧ (vecR s).2 j ≤ 4294967295 := fun j _ => by
  have := tk2_bound (numW 1 s) (aftW 1 s) 8 j
  unfold vecR
  omega
theorem vaR_ok (s : RS) : okVa (vaR s).2 ∧ (vaR s).2.ks.length ≤ 4 := by
  have h1 := takeV_size s
  have h2 := takeV_in s
  have h3 := takeV_len s
  exact ⟨⟨⟨by show _ ≤ (takeV (tellS s)).1.2.1; omega, by show (takeV (tellS s)).1.2.1 ≤ _; omega⟩, h2⟩, h3⟩
theorem sbR_ok (s : RS) : okSv (sbR s).2 ∧ (sbR s).2.v.ks.length ≤ 4 := by
  have h := vaR_ok (aftW 2 (aftW 1 s))
  have h1 := num1_le s
  have h2 := num_le 2 (aftW 1 s) (by decide)
  exact ⟨⟨h1, h2, h.1⟩, h.2⟩
theorem sbsR_ok (s : RS) : ∀ k, ∀ x ∈ (sbsR s k).2, okSv x ∧ x.v.ks.length ≤ 4
  | 0, x, hx => nomatch hx
  | k+1, x, hx => by
    rw [sbsR] at hx
    split at hx
    · exact sbsR_ok s k x hx
    · simp only at hx
      split at hx
      · exact sbsR_ok s k x hx
      · rcases List.mem_append.1 hx with h | h
        · exact sbsR_ok s k x h
        · obtain rfl := List.mem_singleton.1 h
          exact sbR_ok _
theorem zeroF_le : ∀ j, j < 8 → 0 ≤ zeroF j ∧ zeroF j ≤ 4294967295 := fun j _ => by show 0 ≤ (0 : Int) ∧ (0 : Int) ≤ _; decide
theorem zeroVa_ok : okVa zeroVa := ⟨by decide, fun k hk => nomatch hk⟩
theorem zeroRx_ok {k : Int} (h : 0 ≤ k ∧ k ≤ 255) : okR (zeroRx k) := by
  have a : (0 : Int) ≤ 0 ∧ (0 : Int) ≤ 255 := by decide
  have c : (0 : Int) ≤ 0 ∧ (0 : Int) ≤ 4294967295 := by decide
  have d : (-9223372036854775808 : Int) ≤ 0 ∧ (0 : Int) ≤ 9223372036854775807 := by decide
  exact ⟨h, a, c, c, c, a, c, d, zeroF_le, (fun s hs => (nomatch hs)), c, c, a, zeroVa_ok, zeroF_le, c, d, d, d⟩
theorem pthR_len (s : RS) : (pthR s).2.length ≤ 255 := by
  have h1 := num1_le s
  unfold pthR fixedR
  simp only
  split
  · simp
  · split
    · simp
    · simp only [List.length_take]
      omega
theorem zeroRx_few (k : Int) : fewR (zeroRx k) := ⟨Nat.zero_le _, Nat.zero_le _, (fun s hs => (nomatch hs)), Nat.zero_le _⟩
theorem oneR_ok (s : RS) : okR (oneR s).2 ∧ fewR (oneR s).2 := by
  unfold oneR
  have hz := zeroRx_ok (num1_le s)
  have hf := zeroRx_few (numW 1 s)
  generalize numW 1 s = k at *
  generalize aftW 1 s = s1 at *
  have i4 : ∀ s, -9223372036854775808 ≤ numW 4 s ∧ numW 4 s ≤ 9223372036854775807 := fun s => by have := num_le 4 s (by decide); omega
  have i2 : ∀ s, -9223372036854775808 ≤ numW 2 s ∧ numW 2 s ≤ 9223372036854775807 := fun s => by have := num2_le s; omega
  have i1 : ∀ s, -9223372036854775808 ≤ numW 1 s ∧ numW 1 s ≤ 9223372036854775807 := fun s => by have := num1_le s; omega
  have u4 : ∀ s, 0 ≤ numW 4 s ∧ numW 4 s ≤ 4294967295 := fun s => num_le 4 s (by decide)
  rcases kinds k with hk | hk | hk | hk | hk | hk | hk | hk | hk
  · rw [bodyR1 s1 hk]; exact ⟨{ hz with r := num1_le _ }, { hf with }⟩
  · rw [bodyR2 s1 hk]; exact ⟨{ hz with n0 := u4 _, n1 := u4 _, n2 := u4 _ }, { hf with }⟩
  · rw [bodyR3 s1 hk]; exact ⟨{ hz with rk := num1_le _, ra := u4 _, rq := i4 _ }, { hf with }⟩
  · rw [bodyR4 s1 hk]
    have hx := sbsR_ok (aftW 1 (vecR (pthR s1).1).1) (numW 1 (vecR (pthR s1).1).1).toNat
    have hl := sbsR_len (aftW 1 (vecR (pthR s1).1).1) (numW 1 (vecR (pthR s1).1).1).toNat
    have hn := num1_le (vecR (pthR s1).1).1
    have hp := pthR_len s1
    exact ⟨{ hz with f := vec_le _, xs := fun x hm => (hx x hm).1 }, { hf with p := by show (pthR s1).2.length ≤ 300; omega, l := by show (sbsR _ _).2.length ≤ 256; omega, el := fun x hm => by have := (hx x hm).2; omega }⟩
  · rw [bodyR5 s1 hk]
    have hp := pthR_len s1
    have hv := vaR_ok (aftW 1 (aftW 4 (aftW 4 (pthR s1).1)))
    exact ⟨{ hz with vi := u4 _, vt := u4 _, vc := num1_le _, v := hv.1 }, { hf with p := by show (pthR s1).2.length ≤ 300; omega, v := by show (vaR _).2.ks.length ≤ 20; omega }⟩
  · rw [bodyR6 s1 hk]; exact ⟨{ hz with vi := u4 _ }, { hf with }⟩
  · rw [bodyR7 s1 hk]; exact ⟨{ hz with ci := u4 _, cb := i2 _, cr := i2 _, cs := i1 _ }, { hf with }⟩
  · rw [bodyR8 s1 hk]
    have hp := pthR_len (aftW 1 s1)
    exact ⟨{ hz with r := num1_le _, g := vec_le _ }, { hf with p := by show (pthR (aftW 1 s1)).2.length ≤ 300; omega }⟩
  · rw [bodyR9 s1 hk]; exact ⟨hz, hf⟩
theorem takeF_ok : ∀ (n : Nat) (r : List UInt8) (acc : List Rx), (∀ x ∈ acc, okR x ∧ fewR x ∧ checkR x = true) → ∀ x ∈ (takeF n r acc).1, okR x ∧ fewR x ∧ checkR x = true
  | 0, r, acc, h, x, hx => h x hx
  | n+1, r, acc, h, x, hx => by
    rw [takeF] at hx
    split at hx
    · exact h x hx
    · split at hx
      · cases hx
      · split at hx
        · cases hx
        · rename_i hc
          split at hx
          · cases hx
          · refine takeF_ok n _ _ (fun y hy => ?_) x hx
            rcases List.mem_append.1 hy with h' | h'
            · exact h y h'
            · obtain rfl := List.mem_singleton.1 h'
              exact ⟨(oneR_ok _).1, (oneR_ok _).2, by simpa using hc⟩
theorem takeR_ok (s : List UInt8) : ∀ x ∈ (takeR s).1, okR x ∧ fewR x ∧ checkR x = true := takeF_ok _ s [] (fun x hx => nomatch hx)
theorem takeA_len : ∀ (n : Nat) (r : List UInt8) (acc : List Rx), r.length ≤ n → (takeA r acc).1.length ≤ acc.length + r.length
  | 0, r, acc, h => by
    obtain rfl : r = [] := List.eq_nil_of_length_eq_zero (by omega)
    rw [takeA_nil]
    simp
  | n+1, r, acc, h => by
    by_cases hr : r = []
    · subst hr; rw [takeA_nil]; simp
    · rw [takeA_cons hr]
      split
      · simp
      · rename_i he
        split
        · simp
        · split
          · simp
          · have h1 := oneR_less (r := r) (by simpa using he)
            have h2 := takeA_len n (oneR ⟨r, 0⟩).1.rest (acc ++ [(oneR ⟨r, 0⟩).2]) (by omega)
            rw [List.length_append, List.length_singleton] at h2
            omega
end Go.RV


set_option maxRecDepth 20000
set_option linter.unusedVariables false
set_option linter.unusedSimpArgs false
namespace Go.RV
open Go Go.Proofs Go.RowKit

def KeepR (Lv : LM) (A : Option Addr) (rs : List Rm) : Prop := ∀ w, Holds w Lv → RdR w A rs
theorem elR : ElemOk Tryz.prog TB 23 49 36 224 := ⟨rfl, ⟨_, _, inf49, rfl, rfl, rfl, rfl⟩, by decide⟩
def dfr (ba be : Nat) : Deferred := { target := .fn (.func 27) #[.pointer (some ⟨ba, 0, none⟩), .pointer (some ⟨be, 0, none⟩)], args := #[] }
section
variable {ba be : Nat} {p0 p1 : Value} {fr : Fr} {w0 w : World} {F : LM} {R : Ending → World → Prop} {sv : Value} {e0 : Int}
theorem res9 {ba be : Nat} {p0 p1 : Value} {fr : Fr} {w : World} {sv : Value} {e : Int} {K : Value → Prop} (h1 : w.cell? ⟨ba, 0, none⟩ = some sv) (h2 : w.cell? ⟨be, 0, none⟩ = some (.int .i64 e)) (k : K (.tuple #[sv, .int .i64 e])) :
    retK TB Tryz.f9.results.toList (p0 :: p1 :: .pointer (some ⟨ba, 0, none⟩) :: .pointer (some ⟨be, 0, none⟩) :: fr) w K := by
  (conv => whnf)
  refine ld_i _ h1 ?_
  (conv => whnf)
  refine ld_i _ h2 ?_
  exact k
theorem goesP {e : Int} (hS : Sf [] w0 w ([(ba, sliO sv), (be, errO e0)] ++ F) []) (hR : ∀ w', St [] w0 w' [] → R (.returned (.tuple #[.slice none 0 0, .int .i64 e])) w') :
    Goes Tryz.prog Tryz.f9 R (p0 :: p1 :: .pointer (some ⟨ba, 0, none⟩) :: .pointer (some ⟨be, 0, none⟩) :: fr) [dfr ba be] (.panicking [wrongE e]) w := by
  refine Goes.one (by intro h; cases h) Tryz.func27 rfl (by kernel_rfl) (catchP_c ba be sv e0 e w hS.ownF) ?_
  rintro E u' w' ⟨rfl, rfl, hS'⟩
  refine ⟨⟨_, rfl⟩, ?_⟩
  have hS2 := hS.callW hS'
  have e1 : settle (.panicking [{ wrongE e with recovered := true }]) = .returning := rfl
  rw [e1]
  refine Goes.nil TB_ok (res9 (sv := .slice none 0 0) (e := e) ?_ ?_ (hR _ hS2.nil))
  · exact hS'.cell 0 rfl rfl
  · exact hS'.cell 1 rfl rfl
theorem goesN (hS : Sf [] w0 w ([(ba, sliO sv), (be, errO e0)] ++ F) []) (hR : ∀ w', Sf [] w0 w' ([(ba, sliO sv), (be, errO e0)] ++ F) [] → R (.returned (.tuple #[sv, .int .i64 e0])) w') :
    Goes Tryz.prog Tryz.f9 R (p0 :: p1 :: .pointer (some ⟨ba, 0, none⟩) :: .pointer (some ⟨be, 0, none⟩) :: fr) [dfr ba be] .returning w := by
  refine Goes.one (by intro h; cases h) Tryz.func27 rfl (by kernel_rfl) (catchN_c ba be w) ?_
  rintro E u' w' ⟨rfl, rfl, hS'⟩
  refine ⟨⟨_, rfl⟩, ?_⟩
  have hS2 := hS.call0 hS'
  have e1 : settle .returning = .returning := rfl
  rw [e1]
  refine Goes.nil TB_ok (res9 (sv := sv) (e := e0) ?_ ?_ (hR _ hS2))
  · exact hS2.st.cell 0 rfl rfl
  · exact hS2.st.cell 1 rfl rfl
end
def PT (s : List UInt8) (w : World) (v : Value) (w' : World) : Prop := ∃ A c rs Lv, v = .tuple #[.slice A rs.length c, .int .i64 (takeR s).2] ∧ (takeR s).1 = rs.map Rm.x ∧ KeepR Lv A rs ∧ St [] w w' Lv
theorem failT {s : List UInt8} {e : Int} (h : takeR s = ([], e)) {w w' : World} (hS : St [] w w' []) : PT s w (.tuple #[.slice none 0 0, .int .i64 e]) w' :=
  ⟨none, 0, [], [], by rw [h]; rfl, by rw [h]; rfl, fun w'' _ => ⟨.inl rfl, fun r hr => (nomatch hr)⟩, hS⟩
theorem putR1 (x : Rx) : putR [x] = if checkR x = true then (recT x, 0) else ([], 4) := by
  unfold putR
  simp
section
variable {M : List Nat} {w0 w : World} {F r La Lb Lc Ld : LM} {a b c x y z : Nat × Obj}
theorem Sf.two (h : Sf M w0 w F (x :: a :: b :: r)) : Sf M w0 w ([b, a] ++ (F ++ (x :: r))) [] := ⟨h.st.perm (pc fun u => by simp only [List.count_append, List.count_cons, List.count_nil]; omega)⟩
end
set_option maxHeartbeats 8000000 in
theorem take18_c (s : List UInt8) (hs : s.length ≤ 1000000) (w : World) :
    Fc Tryz.prog 9 [.string (strY s)] w (PT s w) := by
  refine fc_of_calls Tryz.func9 rfl (by kernel_rfl) (calls_wpD Tryz.func9 rfl ?_)
  have hS := Sf.refl w
  refine Wp.seqW (XP_ok TB_ok none _ ?_)
  (conv => whnf)
  refine nw_f hS ?_
  intro ba w1 hS
  (conv => whnf)
  refine nw_f hS ?_
  intro be w2 hS
  (conv => whnf)
  refine Wp.defer2 rfl rfl rfl rfl rfl rfl (lb9 rfl) (cs := #[.pointer (some ⟨ba, 0, none⟩), .pointer (some ⟨be, 0, none⟩)]) (by rw [List.map_toArray]; rfl) ?_
  refine XP_ok TB_ok none _ ?_
  (conv => whnf)
  refine fp_m (read_c s _) ?_
  rintro v w3 ⟨br, rfl, hS'⟩
  replace hS := hS.callF hS'
  repeat ((conv => whnf); first | (apply q_i; focus (intro w1 hS; (conv => whnf); first | exact ⟨rfl, rfl⟩ | ((first | refine ld_f hS 0 rfl rfl ?_ | refine ldA_f hS 0 rfl rfl ?_); (conv => whnf); exact ⟨rfl, rfl⟩))) | (refine nw_f hS ?_; intro b w1 hS) | refine as_i hS ?_ | refine as_i (hS.subs (List.nil_sublist _) sb9) ?_ | refine as_i (hS.subs (List.Sublist.refl _) sb9) ?_ | refine bar_f hS ?_ | refine ld_f hS 0 rfl rfl ?_ | refine ldA_f hS 0 rfl rfl ?_ | ((first | refine stN_f hS 0 rfl (lb9 rfl) rfl rfl ?_ | refine stM_f hS 0 rfl (lb9 rfl) rfl ?_); (conv => whnf); intro w1 hS) | refine br_t (by assumption) ?_ | refine br_f (by assumption) ?_)
  have hfail : ∀ {F : LM} {sv : Value} {e0 e : Int} {w' : World} {fr : Fr} {x : Nat × Obj}, takeR s = ([], e) → Sf [] w w' F [x, (be, errO e0), (ba, sliO sv)] → Goes Tryz.prog Tryz.f9 (fun e w' => ∃ v, e = .returned v ∧ PT s w v w') (.string (strY s) :: undef :: .pointer (some ⟨ba, 0, none⟩) :: .pointer (some ⟨be, 0, none⟩) :: fr) [dfr ba be] (.panicking [wrongE e]) w' :=
    fun h hS => goesP hS.two fun w' h' => ⟨_, rfl, failT h h'⟩
  replace hS : Sf [] w _ ([(br, rdO ⟨s, 0⟩)] ++ ([] ++ ([] ++ []))) [_, (be, errO 0), (ba, sliO (.slice none 0 0))] := hS
  refine loopP_i TB_ok (fun r : List UInt8 => [(5, .string (strY r))]) (fun r w' => ∃ A c rs Lx Li, takeA r (rs.map Rm.x) = takeR s ∧ (∀ w'', Holds w'' Li → ∀ m ∈ rs, MemR w'' m.x m.h m.ms) ∧ Sl 49 36 (.slice A rs.length c) rs.length (flat encRm rs) Lx ∧ rs.length + r.length ≤ s.length ∧
    Sf [] w w' ([(br, rdO ⟨r, 0⟩)] ++ (Lx ++ (Li ++ []))) [_, (be, errO 0), (ba, sliO (.slice A rs.length c))]) (fun r => r.length) s rfl ⟨none, 0, [], [], [], rfl, (fun _ _ m hm => (nomatch hm)), .nil, by simp, hS⟩ ?_
  rintro r us w4 ⟨A, c, rs, Lx, Li, hT, hin, hv, hlen, hS⟩
  have hne := streq_nil r
  have hrz := strY_size r
  by_cases hr : r = []
  · subst hr
    have g0 : (!streq (strY ([] : List UInt8)) ⟨#[]⟩) = false := by rw [hne]; rfl
    rw [takeA_nil] at hT
    generalize strY ([] : List UInt8) = rr at *
    repeat ((conv => whnf); first | (apply q_i; focus (intro w1 hS; (conv => whnf); first | exact ⟨rfl, rfl⟩ | ((first | refine ld_f hS 0 rfl rfl ?_ | refine ld_f hS 1 rfl rfl ?_ | refine ld_f hS 2 rfl rfl ?_ | refine ldA_f hS 0 rfl rfl ?_ | refine ldA_f hS 1 rfl rfl ?_ | refine ldA_f hS 2 rfl rfl ?_); (conv => whnf); exact ⟨rfl, rfl⟩))) | (refine nw_f hS ?_; intro b w1 hS) | refine as_i hS ?_ | refine as_i (hS.subs (List.nil_sublist _) sb9) ?_ | refine as_i (hS.subs (List.Sublist.refl _) sb9) ?_ | refine bar_f hS ?_ | refine ld_f hS 0 rfl rfl ?_ | refine ld_f hS 1 rfl rfl ?_ | refine ld_f hS 2 rfl rfl ?_ | refine ldA_f hS 0 rfl rfl ?_ | refine ldA_f hS 1 rfl rfl ?_ | refine ldA_f hS 2 rfl rfl ?_ | ((first | refine stN_f hS 0 rfl (lb9 rfl) rfl rfl ?_ | refine stN_f hS 1 rfl (lb9 rfl) rfl rfl ?_ | refine stN_f hS 2 rfl (lb9 rfl) rfl rfl ?_ | refine stM_f hS 0 rfl (lb9 rfl) rfl ?_ | refine stM_f hS 1 rfl (lb9 rfl) rfl ?_ | refine stM_f hS 2 rfl (lb9 rfl) rfl ?_); (conv => whnf); intro w1 hS) | refine br_t (by assumption) ?_ | refine br_f (by assumption) ?_)
    (conv => whnf)
    refine goesN hS.two fun w' h' => ⟨_, rfl, A, c, rs, Lx ++ Li, by rw [← hT], by rw [← hT], fun w'' hH => ⟨hv.rdK hH.left, hin w'' hH.right⟩, ?_⟩
    exact h'.st.sub (by
      simp only [List.append_nil]
      exact (List.sublist_append_of_sublist_left (List.sublist_append_right _ _)).trans (List.sublist_append_right _ _))
  · have g0 : (!streq (strY r) ⟨#[]⟩) = true := by rw [hne]; cases r <;> simp_all
    rw [takeA_cons hr] at hT
    repeat ((conv => whnf); first | (apply q_i; focus (intro w1 hS; (conv => whnf); first | exact ⟨rfl, rfl⟩ | ((first | refine ld_f hS 0 rfl rfl ?_ | refine ld_f hS 1 rfl rfl ?_ | refine ld_f hS 2 rfl rfl ?_ | refine ldA_f hS 0 rfl rfl ?_ | refine ldA_f hS 1 rfl rfl ?_ | refine ldA_f hS 2 rfl rfl ?_); (conv => whnf); exact ⟨rfl, rfl⟩) | ((refine ldN_f hS 0 rfl (lb9 rfl) ?_); (conv => whnf); exact ⟨rfl, rfl⟩))) | (refine nw_f hS ?_; intro b w1 hS) | refine as_i hS ?_ | refine as_i (hS.subs (List.nil_sublist _) sb9) ?_ | refine as_i (hS.subs (List.Sublist.refl _) sb9) ?_ | refine bar_f hS ?_ | refine ld_f hS 0 rfl rfl ?_ | refine ld_f hS 1 rfl rfl ?_ | refine ld_f hS 2 rfl rfl ?_ | refine ldA_f hS 0 rfl rfl ?_ | refine ldA_f hS 1 rfl rfl ?_ | refine ldA_f hS 2 rfl rfl ?_ | ((first | refine stN_f hS 0 rfl (lb9 rfl) rfl rfl ?_ | refine stN_f hS 1 rfl (lb9 rfl) rfl rfl ?_ | refine stN_f hS 2 rfl (lb9 rfl) rfl rfl ?_ | refine stM_f hS 0 rfl (lb9 rfl) rfl ?_ | refine stM_f hS 1 rfl (lb9 rfl) rfl ?_ | refine stM_f hS 2 rfl (lb9 rfl) rfl ?_); (conv => whnf); intro w1 hS) | refine ldN_f hS 0 rfl (lb9 rfl) ?_ | refine br_t (by assumption) ?_ | refine br_f (by assumption) ?_)
    refine fp_p (record18_c br ⟨r, 0⟩ _ hS.ownF) ?_ ?_
    rotate_left
    · rintro q w5 ⟨he, rfl, hS'⟩
      (conv => whnf)
      rw [if_pos he] at hT
      exact hfail hT.symm (hS.callW hS')
    rintro v w5 ⟨he, h, ms, Lb, hH, rfl, hS'⟩
    replace hS := (hS.callW hS').join
    have hok := oneR_ok ⟨r, 0⟩
    have htl := oneR_tail (r := r)
    have hls := oneR_less he
    rw [if_neg (by rw [he]; decide)] at hT
    generalize hone : oneR ⟨r, 0⟩ = t at *
    obtain ⟨st, x⟩ := t
    simp only at he hH hok htl hls hT hS
    repeat ((conv => whnf); first | (apply q_i; focus (intro w1 hS; (conv => whnf); first | exact ⟨rfl, rfl⟩ | ((first | refine ld_f hS 0 rfl rfl ?_ | refine ld_f hS 1 rfl rfl ?_ | refine ld_f hS 2 rfl rfl ?_ | refine ld_f hS 3 rfl rfl ?_ | refine ldA_f hS 0 rfl rfl ?_ | refine ldA_f hS 1 rfl rfl ?_ | refine ldA_f hS 2 rfl rfl ?_ | refine ldA_f hS 3 rfl rfl ?_); (conv => whnf); exact ⟨rfl, rfl⟩))) | (refine nw_f hS ?_; intro b w1 hS) | refine as_i hS ?_ | refine as_i (hS.subs (List.nil_sublist _) sb9) ?_ | refine as_i (hS.subs (List.Sublist.refl _) sb9) ?_ | refine bar_f hS ?_ | refine ld_f hS 0 rfl rfl ?_ | refine ld_f hS 1 rfl rfl ?_ | refine ld_f hS 2 rfl rfl ?_ | refine ld_f hS 3 rfl rfl ?_ | refine ldA_f hS 0 rfl rfl ?_ | refine ldA_f hS 1 rfl rfl ?_ | refine ldA_f hS 2 rfl rfl ?_ | refine ldA_f hS 3 rfl rfl ?_ | ((first | refine stN_f hS 0 rfl (lb9 rfl) rfl rfl ?_ | refine stN_f hS 1 rfl (lb9 rfl) rfl rfl ?_ | refine stN_f hS 2 rfl (lb9 rfl) rfl rfl ?_ | refine stN_f hS 3 rfl (lb9 rfl) rfl rfl ?_ | refine stM_f hS 0 rfl (lb9 rfl) rfl ?_ | refine stM_f hS 1 rfl (lb9 rfl) rfl ?_ | refine stM_f hS 2 rfl (lb9 rfl) rfl ?_ | refine stM_f hS 3 rfl (lb9 rfl) rfl ?_); (conv => whnf); intro w1 hS) | refine br_t (by assumption) ?_ | refine br_f (by assumption) ?_)
    have hput := fun A c w' hR => putR_c A c [⟨x, h, ms⟩] (fun y hy => by obtain rfl := List.mem_singleton.1 hy; exact ⟨hok.1, hok.2.sz⟩) (by simp) w' hR
    have hpe : putR ([(⟨x, h, ms⟩ : Rm)].map Rm.x) = if checkR x = true then (recT x, 0) else ([], 4) := putR1 x
    rw [hpe] at hput
    have hmem : MemR _ x h ms := hH _ (hS.st.holds (fun y hy => by simp [hy]))
    have hrd : RdR _ _ [(⟨x, h, ms⟩ : Rm)] := ⟨hS.rd 0 rfl, fun y hy => by obtain rfl := List.mem_singleton.1 hy; exact hmem⟩
    cases hc : checkR x with
    | false =>
      rw [if_pos hc] at hT
      simp only [hc, Bool.false_eq_true, if_false] at hput
      refine fp_m (hput _ _ _ hrd) ?_
      rintro v w6 ⟨rfl, hS'⟩
      replace hS := hS.call0 hS'
      repeat ((conv => whnf); first | (apply q_i; focus (intro w1 hS; (conv => whnf); first | exact ⟨rfl, rfl⟩ | ((first | refine ld_f hS 0 rfl rfl ?_ | refine ld_f hS 1 rfl rfl ?_ | refine ld_f hS 2 rfl rfl ?_ | refine ld_f hS 3 rfl rfl ?_ | refine ldA_f hS 0 rfl rfl ?_ | refine ldA_f hS 1 rfl rfl ?_ | refine ldA_f hS 2 rfl rfl ?_ | refine ldA_f hS 3 rfl rfl ?_); (conv => whnf); exact ⟨rfl, rfl⟩))) | (refine nw_f hS ?_; intro b w1 hS) | refine as_i hS ?_ | refine as_i (hS.subs (List.nil_sublist _) sb9) ?_ | refine as_i (hS.subs (List.Sublist.refl _) sb9) ?_ | refine bar_f hS ?_ | refine ld_f hS 0 rfl rfl ?_ | refine ld_f hS 1 rfl rfl ?_ | refine ld_f hS 2 rfl rfl ?_ | refine ld_f hS 3 rfl rfl ?_ | refine ldA_f hS 0 rfl rfl ?_ | refine ldA_f hS 1 rfl rfl ?_ | refine ldA_f hS 2 rfl rfl ?_ | refine ldA_f hS 3 rfl rfl ?_ | ((first | refine stN_f hS 0 rfl (lb9 rfl) rfl rfl ?_ | refine stN_f hS 1 rfl (lb9 rfl) rfl rfl ?_ | refine stN_f hS 2 rfl (lb9 rfl) rfl rfl ?_ | refine stN_f hS 3 rfl (lb9 rfl) rfl rfl ?_ | refine stM_f hS 0 rfl (lb9 rfl) rfl ?_ | refine stM_f hS 1 rfl (lb9 rfl) rfl ?_ | refine stM_f hS 2 rfl (lb9 rfl) rfl ?_ | refine stM_f hS 3 rfl (lb9 rfl) rfl ?_); (conv => whnf); intro w1 hS) | refine br_t (by assumption) ?_ | refine br_f (by assumption) ?_)
      refine fp_p (must_c 4 _) ?_ ?_
      · rintro v w7 ⟨h0, _⟩
        cases h0
      · rintro q w7 ⟨_, rfl, hS'⟩
        replace hS := hS.call0 hS'
        (conv => whnf)
        exact hfail hT.symm (hS.subs (List.Sublist.refl _) (.cons _ (.cons _ (.refl _))))
    | true =>
      rw [if_neg (by rw [hc]; decide)] at hT
      simp only [hc, if_true] at hput
      refine fp_m (hput _ _ _ hrd) ?_
      rintro v w6 ⟨rfl, hS'⟩
      replace hS := hS.call0 hS'
      repeat ((conv => whnf); first | (apply q_i; focus (intro w1 hS; (conv => whnf); first | exact ⟨rfl, rfl⟩ | ((first | refine ld_f hS 0 rfl rfl ?_ | refine ld_f hS 1 rfl rfl ?_ | refine ld_f hS 2 rfl rfl ?_ | refine ld_f hS 3 rfl rfl ?_ | refine ldA_f hS 0 rfl rfl ?_ | refine ldA_f hS 1 rfl rfl ?_ | refine ldA_f hS 2 rfl rfl ?_ | refine ldA_f hS 3 rfl rfl ?_); (conv => whnf); exact ⟨rfl, rfl⟩))) | (refine nw_f hS ?_; intro b w1 hS) | refine as_i hS ?_ | refine as_i (hS.subs (List.nil_sublist _) sb9) ?_ | refine as_i (hS.subs (List.Sublist.refl _) sb9) ?_ | refine bar_f hS ?_ | refine ld_f hS 0 rfl rfl ?_ | refine ld_f hS 1 rfl rfl ?_ | refine ld_f hS 2 rfl rfl ?_ | refine ld_f hS 3 rfl rfl ?_ | refine ldA_f hS 0 rfl rfl ?_ | refine ldA_f hS 1 rfl rfl ?_ | refine ldA_f hS 2 rfl rfl ?_ | refine ldA_f hS 3 rfl rfl ?_ | ((first | refine stN_f hS 0 rfl (lb9 rfl) rfl rfl ?_ | refine stN_f hS 1 rfl (lb9 rfl) rfl rfl ?_ | refine stN_f hS 2 rfl (lb9 rfl) rfl rfl ?_ | refine stN_f hS 3 rfl (lb9 rfl) rfl rfl ?_ | refine stM_f hS 0 rfl (lb9 rfl) rfl ?_ | refine stM_f hS 1 rfl (lb9 rfl) rfl ?_ | refine stM_f hS 2 rfl (lb9 rfl) rfl ?_ | refine stM_f hS 3 rfl (lb9 rfl) rfl ?_); (conv => whnf); intro w1 hS) | refine br_t (by assumption) ?_ | refine br_f (by assumption) ?_)
      refine fp_p (must_c 0 _) ?_ ?_
      rotate_left
      · rintro q w7 ⟨h0, _⟩
        exact absurd rfl h0
      rintro v w7 ⟨_, hS'⟩
      replace hS := hS.call0 hS'
      have hqz := strY_size st.rest
      have hk : IntKind.i64.wrap (((strY r).size : Int) - ((strY st.rest).size : Int)) = ((r.length - st.rest.length : Nat) : Int) := by
        rw [wrap_i64 (by omega) (by omega)]
        omega
      have hcmp : (!streq (strY (recT x)) ((strY r).extract 0 (IntKind.i64.wrap (((strY r).size : Int) - ((strY st.rest).size : Int))).toNat)) = !decide (recT x = r.take (r.length - st.rest.length)) := by
        rw [hk, Int.toNat_natCast, strY_take, streq_strY]
      by_cases hcp : recT x = r.take (r.length - st.rest.length)
      · rw [decide_eq_true hcp] at hcmp
        rw [if_neg (by simp [hcp])] at hT
        repeat ((conv => whnf); first | (apply q_i; focus (intro w1 hS; (conv => whnf); first | exact ⟨rfl, rfl⟩ | ((first | refine ld_f hS 0 rfl rfl ?_ | refine ld_f hS 1 rfl rfl ?_ | refine ld_f hS 2 rfl rfl ?_ | refine ld_f hS 3 rfl rfl ?_ | refine ld_f hS 4 rfl rfl ?_ | refine ldA_f hS 0 rfl rfl ?_ | refine ldA_f hS 1 rfl rfl ?_ | refine ldA_f hS 2 rfl rfl ?_ | refine ldA_f hS 3 rfl rfl ?_ | refine ldA_f hS 4 rfl rfl ?_); (conv => whnf); exact ⟨rfl, rfl⟩) | ((refine .mk ⟨by omega, by omega⟩ ?_); (conv => whnf); exact ⟨rfl, rfl⟩))) | (refine nw_f hS ?_; intro b w1 hS) | refine as_i hS ?_ | refine as_i (hS.subs (List.nil_sublist _) sb9) ?_ | refine as_i (hS.subs (List.Sublist.refl _) sb9) ?_ | refine bar_f hS ?_ | refine ld_f hS 0 rfl rfl ?_ | refine ld_f hS 1 rfl rfl ?_ | refine ld_f hS 2 rfl rfl ?_ | refine ld_f hS 3 rfl rfl ?_ | refine ld_f hS 4 rfl rfl ?_ | refine ldA_f hS 0 rfl rfl ?_ | refine ldA_f hS 1 rfl rfl ?_ | refine ldA_f hS 2 rfl rfl ?_ | refine ldA_f hS 3 rfl rfl ?_ | refine ldA_f hS 4 rfl rfl ?_ | ((first | refine stN_f hS 0 rfl (lb9 rfl) rfl rfl ?_ | refine stN_f hS 1 rfl (lb9 rfl) rfl rfl ?_ | refine stN_f hS 2 rfl (lb9 rfl) rfl rfl ?_ | refine stN_f hS 3 rfl (lb9 rfl) rfl rfl ?_ | refine stN_f hS 4 rfl (lb9 rfl) rfl rfl ?_ | refine stM_f hS 0 rfl (lb9 rfl) rfl ?_ | refine stM_f hS 1 rfl (lb9 rfl) rfl ?_ | refine stM_f hS 2 rfl (lb9 rfl) rfl ?_ | refine stM_f hS 3 rfl (lb9 rfl) rfl ?_ | refine stM_f hS 4 rfl (lb9 rfl) rfl ?_); (conv => whnf); intro w1 hS) | (refine fp_m (rrest_c br st _ hS.ownF) ?_; rintro v w3 ⟨rfl, hS'⟩; replace hS := hS.call0 hS') | refine .mk ⟨by omega, by omega⟩ ?_ | refine br_t (by assumption) ?_ | refine br_f (by assumption) ?_)
        (conv => whnf)
        replace hS := hS.rot
        refine app_f TB_ok elR hS hv (show Rd _ _ (flat encRm [⟨x, h, ms⟩]) from hS.rd 0 rfl) rfl (fun y hy => encRm_one _ y (by simpa [flat] using hy)) (by omega) (by omega) ?_
        intro v' Lv' w9 hv' hS
        obtain ⟨A', c', rfl, hv'⟩ := hv'.open
        replace hS := hS.rot
        repeat ((conv => whnf); first | (apply q_i; focus (intro w1 hS; (conv => whnf); first | exact ⟨rfl, rfl⟩ | ((first | refine ld_f hS 0 rfl rfl ?_ | refine ld_f hS 1 rfl rfl ?_ | refine ld_f hS 2 rfl rfl ?_ | refine ld_f hS 3 rfl rfl ?_ | refine ld_f hS 4 rfl rfl ?_ | refine ld_f hS 5 rfl rfl ?_ | refine ldA_f hS 0 rfl rfl ?_ | refine ldA_f hS 1 rfl rfl ?_ | refine ldA_f hS 2 rfl rfl ?_ | refine ldA_f hS 3 rfl rfl ?_ | refine ldA_f hS 4 rfl rfl ?_ | refine ldA_f hS 5 rfl rfl ?_); (conv => whnf); exact ⟨rfl, rfl⟩))) | (refine nw_f hS ?_; intro b w1 hS) | refine as_i hS ?_ | refine as_i (hS.subs (List.nil_sublist _) sb9) ?_ | refine as_i (hS.subs (List.Sublist.refl _) sb9) ?_ | refine bar_f hS ?_ | refine ld_f hS 0 rfl rfl ?_ | refine ld_f hS 1 rfl rfl ?_ | refine ld_f hS 2 rfl rfl ?_ | refine ld_f hS 3 rfl rfl ?_ | refine ld_f hS 4 rfl rfl ?_ | refine ld_f hS 5 rfl rfl ?_ | refine ldA_f hS 0 rfl rfl ?_ | refine ldA_f hS 1 rfl rfl ?_ | refine ldA_f hS 2 rfl rfl ?_ | refine ldA_f hS 3 rfl rfl ?_ | refine ldA_f hS 4 rfl rfl ?_ | refine ldA_f hS 5 rfl rfl ?_ | ((first | refine stN_f hS 0 rfl (lb9 rfl) rfl rfl ?_ | refine stN_f hS 1 rfl (lb9 rfl) rfl rfl ?_ | refine stN_f hS 2 rfl (lb9 rfl) rfl rfl ?_ | refine stN_f hS 3 rfl (lb9 rfl) rfl rfl ?_ | refine stN_f hS 4 rfl (lb9 rfl) rfl rfl ?_ | refine stN_f hS 5 rfl (lb9 rfl) rfl rfl ?_ | refine stM_f hS 0 rfl (lb9 rfl) rfl ?_ | refine stM_f hS 1 rfl (lb9 rfl) rfl ?_ | refine stM_f hS 2 rfl (lb9 rfl) rfl ?_ | refine stM_f hS 3 rfl (lb9 rfl) rfl ?_ | refine stM_f hS 4 rfl (lb9 rfl) rfl ?_ | refine stM_f hS 5 rfl (lb9 rfl) rfl ?_); (conv => whnf); intro w1 hS) | refine br_t (by assumption) ?_ | refine br_f (by assumption) ?_)
        refine fp_m (rrest_c br st _ hS.ownF) ?_
        rintro v w10 ⟨rfl, hS'⟩
        replace hS := hS.call0 hS'
        repeat ((conv => whnf); first | (apply q_i; focus (intro w1 hS; (conv => whnf); first | exact ⟨rfl, rfl⟩ | ((first | refine ld_f hS 0 rfl rfl ?_ | refine ld_f hS 1 rfl rfl ?_ | refine ld_f hS 2 rfl rfl ?_ | refine ld_f hS 3 rfl rfl ?_ | refine ld_f hS 4 rfl rfl ?_ | refine ld_f hS 5 rfl rfl ?_ | refine ldA_f hS 0 rfl rfl ?_ | refine ldA_f hS 1 rfl rfl ?_ | refine ldA_f hS 2 rfl rfl ?_ | refine ldA_f hS 3 rfl rfl ?_ | refine ldA_f hS 4 rfl rfl ?_ | refine ldA_f hS 5 rfl rfl ?_); (conv => whnf); exact ⟨rfl, rfl⟩))) | (refine nw_f hS ?_; intro b w1 hS) | refine as_i hS ?_ | refine as_i (hS.subs (List.nil_sublist _) sb9) ?_ | refine as_i (hS.subs (List.Sublist.refl _) sb9) ?_ | refine bar_f hS ?_ | refine ld_f hS 0 rfl rfl ?_ | refine ld_f hS 1 rfl rfl ?_ | refine ld_f hS 2 rfl rfl ?_ | refine ld_f hS 3 rfl rfl ?_ | refine ld_f hS 4 rfl rfl ?_ | refine ld_f hS 5 rfl rfl ?_ | refine ldA_f hS 0 rfl rfl ?_ | refine ldA_f hS 1 rfl rfl ?_ | refine ldA_f hS 2 rfl rfl ?_ | refine ldA_f hS 3 rfl rfl ?_ | refine ldA_f hS 4 rfl rfl ?_ | refine ldA_f hS 5 rfl rfl ?_ | ((first | refine stN_f hS 0 rfl (lb9 rfl) rfl rfl ?_ | refine stN_f hS 1 rfl (lb9 rfl) rfl rfl ?_ | refine stN_f hS 2 rfl (lb9 rfl) rfl rfl ?_ | refine stN_f hS 3 rfl (lb9 rfl) rfl rfl ?_ | refine stN_f hS 4 rfl (lb9 rfl) rfl rfl ?_ | refine stN_f hS 5 rfl (lb9 rfl) rfl rfl ?_ | refine stM_f hS 0 rfl (lb9 rfl) rfl ?_ | refine stM_f hS 1 rfl (lb9 rfl) rfl ?_ | refine stM_f hS 2 rfl (lb9 rfl) rfl ?_ | refine stM_f hS 3 rfl (lb9 rfl) rfl ?_ | refine stM_f hS 4 rfl (lb9 rfl) rfl ?_ | refine stM_f hS 5 rfl (lb9 rfl) rfl ?_); (conv => whnf); intro w1 hS) | refine br_t (by assumption) ?_ | refine br_f (by assumption) ?_)
        have hst : st = ⟨st.rest, 0⟩ := rs_eta he
        refine ⟨rfl, st.rest, rfl, ⟨A', c', rs ++ [⟨x, h, ms⟩], Lv', Li ++ Lb, ?_, ?_, ?_, ?_, ?_⟩, hls⟩
        · rw [List.map_append]
          exact hT
        · intro w'' hH'' m hm
          rcases List.mem_append.1 hm with h' | h'
          · exact hin w'' hH''.left m h'
          · obtain rfl := List.mem_singleton.1 h'
            exact hH w'' hH''.right
        · rw [flat_append, List.length_append]
          exact hv'
        · rw [List.length_append, List.length_singleton]
          omega
        · rw [List.length_append, ← hst]
          exact hS.subs (List.Sublist.refl _) (.cons _ (.cons _ (.cons _ (.refl _))))
      · rw [decide_eq_false hcp] at hcmp
        rw [if_pos hcp] at hT
        repeat ((conv => whnf); first | (apply q_i; focus (intro w1 hS; (conv => whnf); first | exact ⟨rfl, rfl⟩ | ((first | refine ld_f hS 0 rfl rfl ?_ | refine ld_f hS 1 rfl rfl ?_ | refine ld_f hS 2 rfl rfl ?_ | refine ld_f hS 3 rfl rfl ?_ | refine ldA_f hS 0 rfl rfl ?_ | refine ldA_f hS 1 rfl rfl ?_ | refine ldA_f hS 2 rfl rfl ?_ | refine ldA_f hS 3 rfl rfl ?_); (conv => whnf); exact ⟨rfl, rfl⟩) | ((refine .mk ⟨by omega, by omega⟩ ?_); (conv => whnf); exact ⟨rfl, rfl⟩))) | (refine nw_f hS ?_; intro b w1 hS) | refine as_i hS ?_ | refine as_i (hS.subs (List.nil_sublist _) sb9) ?_ | refine as_i (hS.subs (List.Sublist.refl _) sb9) ?_ | refine bar_f hS ?_ | refine ld_f hS 0 rfl rfl ?_ | refine ld_f hS 1 rfl rfl ?_ | refine ld_f hS 2 rfl rfl ?_ | refine ld_f hS 3 rfl rfl ?_ | refine ldA_f hS 0 rfl rfl ?_ | refine ldA_f hS 1 rfl rfl ?_ | refine ldA_f hS 2 rfl rfl ?_ | refine ldA_f hS 3 rfl rfl ?_ | ((first | refine stN_f hS 0 rfl (lb9 rfl) rfl rfl ?_ | refine stN_f hS 1 rfl (lb9 rfl) rfl rfl ?_ | refine stN_f hS 2 rfl (lb9 rfl) rfl rfl ?_ | refine stN_f hS 3 rfl (lb9 rfl) rfl rfl ?_ | refine stM_f hS 0 rfl (lb9 rfl) rfl ?_ | refine stM_f hS 1 rfl (lb9 rfl) rfl ?_ | refine stM_f hS 2 rfl (lb9 rfl) rfl ?_ | refine stM_f hS 3 rfl (lb9 rfl) rfl ?_); (conv => whnf); intro w1 hS) | (refine fp_m (rrest_c br st _ hS.ownF) ?_; rintro v w3 ⟨rfl, hS'⟩; replace hS := hS.call0 hS') | refine .mk ⟨by omega, by omega⟩ ?_ | refine br_t (by assumption) ?_ | refine br_f (by assumption) ?_)
        refine fp_p (must_c 4 _) ?_ ?_
        · rintro v w7 ⟨h0, _⟩
          cases h0
        · rintro q w7 ⟨_, rfl, hS'⟩
          replace hS := hS.call0 hS'
          (conv => whnf)
          exact hfail hT.symm (hS.subs (List.Sublist.refl _) (.cons _ (.cons _ (.refl _))))
end Go.RV


set_option maxRecDepth 20000
set_option linter.unusedVariables false
set_option linter.unusedSimpArgs false
namespace Go.RV
open Go Go.Proofs Go.RowKit

theorem elRM : ElemOk Tryz.prog TB 58 104 5 48 := ⟨rfl, ⟨_, _, inf104, rfl, rfl, rfl, rfl⟩, by decide⟩
def recL0 (x : Rx) (A : Option Addr) (l c : Nat) (B : Option Addr) (e : Nat) : List Value :=
  [.int .u8 x.k, .int .u8 x.r, .int .u32 x.n0, .int .u32 x.n1, .int .u32 x.n2, .int .u8 x.rk, .int .u32 x.ra, .int .i64 x.rq, .string (strY x.p)] ++ (vecF x.f ++ ([.slice A l c,
    .int .u32 x.vi, .int .u32 x.vt, .int .u8 x.vc, .bool x.v.d, .int .i64 x.v.n, .slice B x.v.ks.length e] ++ (vecF x.g ++ [.int .u32 x.ci, .int .i64 x.cb, .int .i64 x.cr, .int .i64 x.cs])))
theorem their18_c (x : Rx) (h : Hd) (ms : List Sm) (w : World) (hx : MemR w x h ms) (hn : x.xs.length ≤ 1000000) :
    Fc Tryz.prog 17 [recV x h] w fun v w' => ∃ A c Lv, v = recV x ⟨A, c, h.B, h.e⟩ ∧ (∀ w'', Holds w'' Lv → Rd w'' A (flat encM ms)) ∧ St [] w w' Lv := by
  have hl := hx.len
  refine fc_i TB_ok Tryz.func17 rfl (by kernel_rfl) ?_
  have hS := Sf.refl w
  repeat ((conv => whnf); first | (apply q_i; focus (intro w1 hS; (conv => whnf); first | exact ⟨rfl, rfl⟩ | ((first | refine ld_f hS 0 rfl rfl ?_ | refine ld_f hS 1 rfl rfl ?_ | refine ld_f hS 2 rfl rfl ?_ | refine ldA_f hS 0 rfl rfl ?_ | refine ldA_f hS 1 rfl rfl ?_ | refine ldA_f hS 2 rfl rfl ?_); (conv => whnf); exact ⟨rfl, rfl⟩) | ((refine ldN_f hS 0 rfl (lb9 rfl) ?_); (conv => whnf); exact ⟨rfl, rfl⟩) | ((refine ldN_f hS 1 rfl (lb9 rfl) ?_); (conv => whnf); exact ⟨rfl, rfl⟩) | ((refine ldN_f hS 2 rfl (lb9 rfl) ?_); (conv => whnf); exact ⟨rfl, rfl⟩))) | (refine nw_f hS ?_; intro b w1 hS) | refine as_i hS ?_ | refine as_i (hS.subs (List.nil_sublist _) sb9) ?_ | refine as_i (hS.subs (List.Sublist.refl _) sb9) ?_ | refine bar_f hS ?_ | refine ld_f hS 0 rfl rfl ?_ | refine ld_f hS 1 rfl rfl ?_ | refine ld_f hS 2 rfl rfl ?_ | refine ldA_f hS 0 rfl rfl ?_ | refine ldA_f hS 1 rfl rfl ?_ | refine ldA_f hS 2 rfl rfl ?_ | ((first | refine stN_f hS 0 rfl (lb9 rfl) rfl rfl ?_ | refine stN_f hS 1 rfl (lb9 rfl) rfl rfl ?_ | refine stN_f hS 2 rfl (lb9 rfl) rfl rfl ?_ | refine stM_f hS 0 rfl (lb9 rfl) rfl ?_ | refine stM_f hS 1 rfl (lb9 rfl) rfl ?_ | refine stM_f hS 2 rfl (lb9 rfl) rfl ?_); (conv => whnf); intro w1 hS) | refine ldN_f hS 0 rfl (lb9 rfl) ?_ | refine ldN_f hS 1 rfl (lb9 rfl) ?_ | refine ldN_f hS 2 rfl (lb9 rfl) ?_ | (refine dr9 hS ?_; intro w1 hS) | refine br_t (by assumption) ?_ | refine br_f (by assumption) ?_)
  replace hS : Sf [] w _ ([] ++ []) [(_, .cells (recL0 x none 0 0 h.B h.e).toArray 63 (0, 0)), _, (_, .cells (recL x h).toArray 49 (0, 0))] := hS
  refine loop_i TB_ok (fun i : Nat => [(4, .int .i64 i)]) (fun i w' => i ≤ ms.length ∧ ∃ B d Lv, Sl 104 5 (.slice B i d) i (flat encM (ms.take i)) Lv ∧ Sf [] w w' (Lv ++ []) [(_, .cells (recL0 x B i d h.B h.e).toArray 63 (0, 0)), _, (_, .cells (recL x h).toArray 49 (0, 0))]) (fun i => ms.length - i) 0 rfl ⟨Nat.zero_le _, none, 0, [], .nil, hS⟩ ?_
  rintro i us w2 ⟨hi, B, d, Lv, hv, hS⟩
  repeat ((conv => whnf); first | (apply q_i; focus (intro w1 hS; (conv => whnf); first | exact ⟨rfl, rfl⟩ | ((first | refine ld_f hS 0 rfl rfl ?_ | refine ld_f hS 1 rfl rfl ?_ | refine ld_f hS 2 rfl rfl ?_ | refine ldA_f hS 0 rfl rfl ?_ | refine ldA_f hS 1 rfl rfl ?_ | refine ldA_f hS 2 rfl rfl ?_); (conv => whnf); exact ⟨rfl, rfl⟩))) | (refine nw_f hS ?_; intro b w1 hS) | refine as_i hS ?_ | refine as_i (hS.subs (List.nil_sublist _) sb9) ?_ | refine as_i (hS.subs (List.Sublist.refl _) sb9) ?_ | refine bar_f hS ?_ | refine ld_f hS 0 rfl rfl ?_ | refine ld_f hS 1 rfl rfl ?_ | refine ld_f hS 2 rfl rfl ?_ | refine ldA_f hS 0 rfl rfl ?_ | refine ldA_f hS 1 rfl rfl ?_ | refine ldA_f hS 2 rfl rfl ?_ | ((first | refine stN_f hS 0 rfl (lb9 rfl) rfl rfl ?_ | refine stN_f hS 1 rfl (lb9 rfl) rfl rfl ?_ | refine stN_f hS 2 rfl (lb9 rfl) rfl rfl ?_ | refine stM_f hS 0 rfl (lb9 rfl) rfl ?_ | refine stM_f hS 1 rfl (lb9 rfl) rfl ?_ | refine stM_f hS 2 rfl (lb9 rfl) rfl ?_); (conv => whnf); intro w1 hS) | (refine dr9 hS ?_; intro w1 hS) | refine br_t (by assumption) ?_ | refine br_f (by assumption) ?_)
  (conv => whnf)
  refine br_i (fun hb => ?_) (fun hb => ?_)
  · have hlt : i < ms.length := by have := of_decide_eq_true hb; omega
    obtain ⟨x0, off, hA⟩ := hx.l.rd.form (flat_ne encM_len (by omega) hlt)
    have hRA : ∀ {w' : World}, St [] w w' [] → Rd w' (some ⟨x0, off, none⟩) (flat encM ms) := fun {w'} hs => by
      have := hx.l.rd.below hs
      rwa [hA] at this
    repeat ((conv => whnf); first | (apply q_i; focus (intro w1 hS; (conv => whnf); first | exact ⟨rfl, rfl⟩ | ((first | refine ld_f hS 0 rfl rfl ?_ | refine ld_f hS 1 rfl rfl ?_ | refine ld_f hS 2 rfl rfl ?_ | refine ldA_f hS 0 rfl rfl ?_ | refine ldA_f hS 1 rfl rfl ?_ | refine ldA_f hS 2 rfl rfl ?_); (conv => whnf); exact ⟨rfl, rfl⟩))) | (refine nw_f hS ?_; intro b w1 hS) | refine as_i hS ?_ | refine as_i (hS.subs (List.nil_sublist _) sb9) ?_ | refine as_i (hS.subs (List.Sublist.refl _) sb9) ?_ | refine bar_f hS ?_ | refine ld_f hS 0 rfl rfl ?_ | refine ld_f hS 1 rfl rfl ?_ | refine ld_f hS 2 rfl rfl ?_ | refine ldA_f hS 0 rfl rfl ?_ | refine ldA_f hS 1 rfl rfl ?_ | refine ldA_f hS 2 rfl rfl ?_ | ((first | refine stN_f hS 0 rfl (lb9 rfl) rfl rfl ?_ | refine stN_f hS 1 rfl (lb9 rfl) rfl rfl ?_ | refine stN_f hS 2 rfl (lb9 rfl) rfl rfl ?_ | refine stM_f hS 0 rfl (lb9 rfl) rfl ?_ | refine stM_f hS 1 rfl (lb9 rfl) rfl ?_ | refine stM_f hS 2 rfl (lb9 rfl) rfl ?_); (conv => whnf); intro w1 hS) | refine br_t (by assumption) ?_ | refine br_f (by assumption) ?_)
    refine drawf TB_ok rfl (by kernel_rfl) (by kernel_rfl) hS (List.nil_sublist _) (List.Sublist.refl _) ?_; intro w3 hS
    repeat ((conv => whnf); first | (apply q_i; focus (intro w1 hS; (conv => whnf); first | exact ⟨rfl, rfl⟩ | ((first | refine ld_f hS 0 rfl rfl ?_ | refine ld_f hS 1 rfl rfl ?_ | refine ld_f hS 2 rfl rfl ?_ | refine ldA_f hS 0 rfl rfl ?_ | refine ldA_f hS 1 rfl rfl ?_ | refine ldA_f hS 2 rfl rfl ?_); (conv => whnf); exact ⟨rfl, rfl⟩) | ((refine .mk ⟨by omega, by omega⟩ ?_; refine ix_i hA ?_); (conv => whnf); exact ⟨rfl, rfl⟩) | ((refine ldN_elp encM_len (hRA hS.nil).at (i := i) (j0 := 0) hlt rfl (lb9 rfl) [.int .u8 ms[i].s.r, .int .u32 ms[i].s.n] rfl ?_); (conv => whnf); exact ⟨rfl, rfl⟩) | ((refine ldN_elp encM_len (hRA hS.nil).at (i := i) (j0 := 2) hlt rfl (lb9 rfl) [.bool ms[i].s.v.d, .int .i64 ms[i].s.v.n, .slice ms[i].A ms[i].s.v.ks.length ms[i].c] rfl ?_); (conv => whnf); exact ⟨rfl, rfl⟩))) | (refine nw_f hS ?_; intro b w1 hS) | refine as_i hS ?_ | refine as_i (hS.subs (List.nil_sublist _) sb9) ?_ | refine as_i (hS.subs (List.Sublist.refl _) sb9) ?_ | refine bar_f hS ?_ | refine ld_f hS 0 rfl rfl ?_ | refine ld_f hS 1 rfl rfl ?_ | refine ld_f hS 2 rfl rfl ?_ | refine ldA_f hS 0 rfl rfl ?_ | refine ldA_f hS 1 rfl rfl ?_ | refine ldA_f hS 2 rfl rfl ?_ | ((first | refine stN_f hS 0 rfl (lb9 rfl) rfl rfl ?_ | refine stN_f hS 1 rfl (lb9 rfl) rfl rfl ?_ | refine stN_f hS 2 rfl (lb9 rfl) rfl rfl ?_ | refine stM_f hS 0 rfl (lb9 rfl) rfl ?_ | refine stM_f hS 1 rfl (lb9 rfl) rfl ?_ | refine stM_f hS 2 rfl (lb9 rfl) rfl ?_); (conv => whnf); intro w1 hS) | (refine .mk ⟨by omega, by omega⟩ ?_; refine ix_i hA ?_) | refine ldN_elp encM_len (hRA hS.nil).at (i := i) (j0 := 0) hlt rfl (lb9 rfl) [.int .u8 ms[i].s.r, .int .u32 ms[i].s.n] rfl ?_ | refine ldN_elp encM_len (hRA hS.nil).at (i := i) (j0 := 2) hlt rfl (lb9 rfl) [.bool ms[i].s.v.d, .int .i64 ms[i].s.v.n, .slice ms[i].A ms[i].s.v.ks.length ms[i].c] rfl ?_ | (refine dr9 hS ?_; intro w1 hS) | refine br_t (by assumption) ?_ | refine br_f (by assumption) ?_)
    (conv => whnf)
    refine app_f TB_ok elRM hS hv (show Rd _ _ (flat encM [ms[i]]) from hS.rd 0 rfl) rfl (fun y hy => encM_one _ y (by simpa [flat] using hy)) (by omega) (by omega) ?_
    intro v' Lv' w7 hv' hS
    obtain ⟨A', c', rfl, hv'⟩ := hv'.open
    repeat ((conv => whnf); first | (apply q_i; focus (intro w1 hS; (conv => whnf); first | exact ⟨rfl, rfl⟩ | ((first | refine ld_f hS 0 rfl rfl ?_ | refine ld_f hS 1 rfl rfl ?_ | refine ld_f hS 2 rfl rfl ?_ | refine ld_f hS 3 rfl rfl ?_ | refine ldA_f hS 0 rfl rfl ?_ | refine ldA_f hS 1 rfl rfl ?_ | refine ldA_f hS 2 rfl rfl ?_ | refine ldA_f hS 3 rfl rfl ?_); (conv => whnf); exact ⟨rfl, rfl⟩))) | (refine nw_f hS ?_; intro b w1 hS) | refine as_i hS ?_ | refine as_i (hS.subs (List.nil_sublist _) sb9) ?_ | refine as_i (hS.subs (List.Sublist.refl _) sb9) ?_ | refine bar_f hS ?_ | refine ld_f hS 0 rfl rfl ?_ | refine ld_f hS 1 rfl rfl ?_ | refine ld_f hS 2 rfl rfl ?_ | refine ld_f hS 3 rfl rfl ?_ | refine ldA_f hS 0 rfl rfl ?_ | refine ldA_f hS 1 rfl rfl ?_ | refine ldA_f hS 2 rfl rfl ?_ | refine ldA_f hS 3 rfl rfl ?_ | ((first | refine stN_f hS 0 rfl (lb9 rfl) rfl rfl ?_ | refine stN_f hS 1 rfl (lb9 rfl) rfl rfl ?_ | refine stN_f hS 2 rfl (lb9 rfl) rfl rfl ?_ | refine stN_f hS 3 rfl (lb9 rfl) rfl rfl ?_ | refine stM_f hS 0 rfl (lb9 rfl) rfl ?_ | refine stM_f hS 1 rfl (lb9 rfl) rfl ?_ | refine stM_f hS 2 rfl (lb9 rfl) rfl ?_ | refine stM_f hS 3 rfl (lb9 rfl) rfl ?_); (conv => whnf); intro w1 hS) | (refine dr9 hS ?_; intro w1 hS) | refine br_t (by assumption) ?_ | refine br_f (by assumption) ?_)
    refine ⟨rfl, i + 1, ?_, ⟨by omega, A', c', Lv', ?_, hS.subs (List.Sublist.refl _) (.cons _ (.refl _))⟩, by omega⟩
    · rw [wi hlt (by omega)]
      rfl
    · rw [List.take_succ_eq_append_getElem hlt, flat_append]
      exact hv'
  · have hge : i = ms.length := by have := of_decide_eq_false hb; omega
    rw [hge, List.take_length, ← hl] at hv
    rw [hge, ← hl] at hS
    repeat ((conv => whnf); first | (apply q_i; focus (intro w1 hS; (conv => whnf); first | exact ⟨rfl, rfl⟩ | ((first | refine ld_f hS 0 rfl rfl ?_ | refine ld_f hS 1 rfl rfl ?_ | refine ld_f hS 2 rfl rfl ?_ | refine ldA_f hS 0 rfl rfl ?_ | refine ldA_f hS 1 rfl rfl ?_ | refine ldA_f hS 2 rfl rfl ?_); (conv => whnf); exact ⟨rfl, rfl⟩) | ((refine ldN_f hS 0 rfl (lb9 rfl) ?_); (conv => whnf); exact ⟨rfl, rfl⟩))) | (refine nw_f hS ?_; intro b w1 hS) | refine as_i hS ?_ | refine as_i (hS.subs (List.nil_sublist _) sb9) ?_ | refine as_i (hS.subs (List.Sublist.refl _) sb9) ?_ | refine bar_f hS ?_ | refine ld_f hS 0 rfl rfl ?_ | refine ld_f hS 1 rfl rfl ?_ | refine ld_f hS 2 rfl rfl ?_ | refine ldA_f hS 0 rfl rfl ?_ | refine ldA_f hS 1 rfl rfl ?_ | refine ldA_f hS 2 rfl rfl ?_ | ((first | refine stN_f hS 0 rfl (lb9 rfl) rfl rfl ?_ | refine stN_f hS 1 rfl (lb9 rfl) rfl rfl ?_ | refine stN_f hS 2 rfl (lb9 rfl) rfl rfl ?_ | refine stM_f hS 0 rfl (lb9 rfl) rfl ?_ | refine stM_f hS 1 rfl (lb9 rfl) rfl ?_ | refine stM_f hS 2 rfl (lb9 rfl) rfl ?_); (conv => whnf); intro w1 hS) | refine ldN_f hS 0 rfl (lb9 rfl) ?_ | (refine dr9 hS ?_; intro w1 hS) | refine br_t (by assumption) ?_ | refine br_f (by assumption) ?_)
    refine ⟨B, d, Lv, rfl, fun w'' hH => hv.rdK hH, by simpa using hS.fr (List.Sublist.refl _)⟩
theorem rsm_c (f g : Nat → Int) (A B : Option Addr) (c e : Nat) (xs ys : List Sm) (w : World) (hx : RdM w A xs) (hy : RdM w B ys) (hl : xs.length ≤ 1000000) (hk : ∀ x ∈ xs, x.s.v.ks.length ≤ 1000000) :
    Fc Tryz.prog 46 [regV f A xs.length c, regV g B ys.length e] w fun v w' => v = .bool (veq f g && sameSs (xs.map Sm.s) (ys.map Sm.s)) ∧ St [] w w' [] := by
  refine fc_i TB_ok Tryz.func46 rfl (by kernel_rfl) ?_
  have hS := Sf.refl w
  cases h3 : veq f g with
  | false =>
    have g3 : (!veq f g) = true := by rw [h3]; rfl
    repeat ((conv => whnf); first | (apply q_i; focus (intro w1 hS; (conv => whnf); first | exact ⟨rfl, rfl⟩ | ((first | refine ld_f hS 0 rfl rfl ?_ | refine ld_f hS 1 rfl rfl ?_ | refine ldA_f hS 0 rfl rfl ?_ | refine ldA_f hS 1 rfl rfl ?_); (conv => whnf); exact ⟨rfl, rfl⟩) | ((refine ldN_f hS 0 rfl (lb9 rfl) ?_); (conv => whnf); exact ⟨rfl, rfl⟩) | ((refine ldN_f hS 1 rfl (lb9 rfl) ?_); (conv => whnf); exact ⟨rfl, rfl⟩) | ((refine neVec f g ?_); (conv => whnf); exact ⟨rfl, rfl⟩))) | (refine nw_f hS ?_; intro b w1 hS) | refine as_i hS ?_ | refine as_i (hS.subs (List.nil_sublist _) sb9) ?_ | refine as_i (hS.subs (List.Sublist.refl _) sb9) ?_ | refine bar_f hS ?_ | refine ld_f hS 0 rfl rfl ?_ | refine ld_f hS 1 rfl rfl ?_ | refine ldA_f hS 0 rfl rfl ?_ | refine ldA_f hS 1 rfl rfl ?_ | ((first | refine stN_f hS 0 rfl (lb9 rfl) rfl rfl ?_ | refine stN_f hS 1 rfl (lb9 rfl) rfl rfl ?_ | refine stM_f hS 0 rfl (lb9 rfl) rfl ?_ | refine stM_f hS 1 rfl (lb9 rfl) rfl ?_); (conv => whnf); intro w1 hS) | refine ldN_f hS 0 rfl (lb9 rfl) ?_ | refine ldN_f hS 1 rfl (lb9 rfl) ?_ | refine neVec f g ?_ | (refine dr9 hS ?_; intro w1 hS) | refine br_t (by assumption) ?_ | refine br_f (by assumption) ?_)
    exact ⟨rfl, hS.nil⟩
  | true =>
    have g3 : (!veq f g) = false := by rw [h3]; rfl
    by_cases hll : xs.length = ys.length
    · have g0 : ((xs.length : Int) != (ys.length : Int)) = false := by simp [hll]
      repeat ((conv => whnf); first | (apply q_i; focus (intro w1 hS; (conv => whnf); first | exact ⟨rfl, rfl⟩ | ((first | refine ld_f hS 0 rfl rfl ?_ | refine ld_f hS 1 rfl rfl ?_ | refine ldA_f hS 0 rfl rfl ?_ | refine ldA_f hS 1 rfl rfl ?_); (conv => whnf); exact ⟨rfl, rfl⟩) | ((refine ldN_f hS 0 rfl (lb9 rfl) ?_); (conv => whnf); exact ⟨rfl, rfl⟩) | ((refine ldN_f hS 1 rfl (lb9 rfl) ?_); (conv => whnf); exact ⟨rfl, rfl⟩) | ((refine neVec f g ?_); (conv => whnf); exact ⟨rfl, rfl⟩))) | (refine nw_f hS ?_; intro b w1 hS) | refine as_i hS ?_ | refine as_i (hS.subs (List.nil_sublist _) sb9) ?_ | refine as_i (hS.subs (List.Sublist.refl _) sb9) ?_ | refine bar_f hS ?_ | refine ld_f hS 0 rfl rfl ?_ | refine ld_f hS 1 rfl rfl ?_ | refine ldA_f hS 0 rfl rfl ?_ | refine ldA_f hS 1 rfl rfl ?_ | ((first | refine stN_f hS 0 rfl (lb9 rfl) rfl rfl ?_ | refine stN_f hS 1 rfl (lb9 rfl) rfl rfl ?_ | refine stM_f hS 0 rfl (lb9 rfl) rfl ?_ | refine stM_f hS 1 rfl (lb9 rfl) rfl ?_); (conv => whnf); intro w1 hS) | refine ldN_f hS 0 rfl (lb9 rfl) ?_ | refine ldN_f hS 1 rfl (lb9 rfl) ?_ | refine neVec f g ?_ | (refine dr9 hS ?_; intro w1 hS) | refine br_t (by assumption) ?_ | refine br_f (by assumption) ?_)
      refine loop_i TB_ok (fun i : Nat => [(5, .int .i64 i)]) (fun i w' => i ≤ xs.length ∧ sameSs ((xs.map Sm.s).take i) ((ys.map Sm.s).take i) = true ∧ Sf [] w w' [] [_, _]) (fun i => xs.length - i) 0 rfl ⟨Nat.zero_le _, by simp [sameSs], hS⟩ ?_
      rintro i us w2 ⟨hi, hsm, hS⟩
      repeat ((conv => whnf); first | (apply q_i; focus (intro w1 hS; (conv => whnf); first | exact ⟨rfl, rfl⟩ | ((first | refine ld_f hS 0 rfl rfl ?_ | refine ld_f hS 1 rfl rfl ?_ | refine ldA_f hS 0 rfl rfl ?_ | refine ldA_f hS 1 rfl rfl ?_); (conv => whnf); exact ⟨rfl, rfl⟩))) | (refine nw_f hS ?_; intro b w1 hS) | refine as_i hS ?_ | refine as_i (hS.subs (List.nil_sublist _) sb9) ?_ | refine as_i (hS.subs (List.Sublist.refl _) sb9) ?_ | refine bar_f hS ?_ | refine ld_f hS 0 rfl rfl ?_ | refine ld_f hS 1 rfl rfl ?_ | refine ldA_f hS 0 rfl rfl ?_ | refine ldA_f hS 1 rfl rfl ?_ | ((first | refine stN_f hS 0 rfl (lb9 rfl) rfl rfl ?_ | refine stN_f hS 1 rfl (lb9 rfl) rfl rfl ?_ | refine stM_f hS 0 rfl (lb9 rfl) rfl ?_ | refine stM_f hS 1 rfl (lb9 rfl) rfl ?_); (conv => whnf); intro w1 hS) | (refine dr9 hS ?_; intro w1 hS) | refine br_t (by assumption) ?_ | refine br_f (by assumption) ?_)
      (conv => whnf)
      refine br_i (fun hb => ?_) (fun hb => ?_)
      · have hlt : i < xs.length := by have := of_decide_eq_true hb; omega
        have hlt2 : i < ys.length := by omega
        obtain ⟨b1, off, hA⟩ := hx.rd.form (flat_ne encM_len (by omega) hlt)
        obtain ⟨b2, off2, hB⟩ := hy.rd.form (flat_ne encM_len (by omega) hlt2)
        have hRA : ∀ {w' : World}, St [] w w' [] → Rd w' (some ⟨b1, off, none⟩) (flat encM xs) := fun {w'} hs => by
          have := hx.rd.below hs
          rwa [hA] at this
        have hRB : ∀ {w' : World}, St [] w w' [] → Rd w' (some ⟨b2, off2, none⟩) (flat encM ys) := fun {w'} hs => by
          have := hy.rd.below hs
          rwa [hB] at this
        have hg := fun h h2 => sameSs_at (xs.map Sm.s) (ys.map Sm.s) i h h2
        have ht := sameSs_take (xs.map Sm.s) (ys.map Sm.s) i (by simpa using hlt) (by simpa using hlt2)
        simp only [List.getElem_map] at hg ht
        have hss : sameS xs[i].s ys[i].s = ((xs[i].s.r == ys[i].s.r && (xs[i].s.n == ys[i].s.n && true)) && sameV xs[i].s.v ys[i].s.v) := rfl
        have hsame := fun (w' : World) => rsame_c xs[i].s.v.d xs[i].s.v.n xs[i].A xs[i].c xs[i].s.v.ks ys[i].s.v.d ys[i].s.v.n ys[i].A ys[i].c ys[i].s.v.ks w'
        have hki := hk _ (List.getElem_mem hlt)
        have hsv : sameB xs[i].s.v.d xs[i].s.v.n xs[i].s.v.ks ys[i].s.v.d ys[i].s.v.n ys[i].s.v.ks = sameV xs[i].s.v ys[i].s.v := rfl
        rw [hsv] at hsame
        cases hd : (xs[i].s.r == ys[i].s.r && (xs[i].s.n == ys[i].s.n && true)) with
        | false =>
          have gd : (!(xs[i].s.r == ys[i].s.r && (xs[i].s.n == ys[i].s.n && true))) = true := by rw [hd]; rfl
          repeat ((conv => whnf); first | (apply q_i; focus (intro w1 hS; (conv => whnf); first | exact ⟨rfl, rfl⟩ | ((first | refine ld_f hS 0 rfl rfl ?_ | refine ld_f hS 1 rfl rfl ?_ | refine ldA_f hS 0 rfl rfl ?_ | refine ldA_f hS 1 rfl rfl ?_); (conv => whnf); exact ⟨rfl, rfl⟩))) | (refine nw_f hS ?_; intro b w1 hS) | refine as_i hS ?_ | refine as_i (hS.subs (List.nil_sublist _) sb9) ?_ | refine as_i (hS.subs (List.Sublist.refl _) sb9) ?_ | refine bar_f hS ?_ | refine ld_f hS 0 rfl rfl ?_ | refine ld_f hS 1 rfl rfl ?_ | refine ldA_f hS 0 rfl rfl ?_ | refine ldA_f hS 1 rfl rfl ?_ | ((first | refine stN_f hS 0 rfl (lb9 rfl) rfl rfl ?_ | refine stN_f hS 1 rfl (lb9 rfl) rfl rfl ?_ | refine stM_f hS 0 rfl (lb9 rfl) rfl ?_ | refine stM_f hS 1 rfl (lb9 rfl) rfl ?_); (conv => whnf); intro w1 hS) | refine br_t (by assumption) ?_ | refine br_f (by assumption) ?_)
          refine drawf TB_ok rfl (by kernel_rfl) (by kernel_rfl) hS (List.Sublist.refl _) (List.Sublist.refl _) ?_; intro w1 hS
          repeat ((conv => whnf); first | (apply q_i; focus (intro w1 hS; (conv => whnf); first | exact ⟨rfl, rfl⟩ | ((first | refine ld_f hS 0 rfl rfl ?_ | refine ld_f hS 1 rfl rfl ?_ | refine ldA_f hS 0 rfl rfl ?_ | refine ldA_f hS 1 rfl rfl ?_); (conv => whnf); exact ⟨rfl, rfl⟩) | ((refine .mk ⟨by omega, by omega⟩ ?_; refine ix_i hA ?_); (conv => whnf); exact ⟨rfl, rfl⟩) | ((refine .mk ⟨by omega, by omega⟩ ?_; refine ix_i hB ?_); (conv => whnf); exact ⟨rfl, rfl⟩) | ((refine ldN_elp encM_len (hRA hS.nil).at (i := i) (j0 := 0) hlt rfl (lb9 rfl) [.int .u8 xs[i].s.r, .int .u32 xs[i].s.n] rfl ?_); (conv => whnf); exact ⟨rfl, rfl⟩) | ((refine ldN_elp encM_len (hRB hS.nil).at (i := i) (j0 := 0) hlt2 rfl (lb9 rfl) [.int .u8 ys[i].s.r, .int .u32 ys[i].s.n] rfl ?_); (conv => whnf); exact ⟨rfl, rfl⟩) | ((refine neDot xs[i].s.r xs[i].s.n ys[i].s.r ys[i].s.n ?_); (conv => whnf); exact ⟨rfl, rfl⟩))) | (refine nw_f hS ?_; intro b w1 hS) | refine as_i hS ?_ | refine as_i (hS.subs (List.nil_sublist _) sb9) ?_ | refine as_i (hS.subs (List.Sublist.refl _) sb9) ?_ | refine bar_f hS ?_ | refine ld_f hS 0 rfl rfl ?_ | refine ld_f hS 1 rfl rfl ?_ | refine ldA_f hS 0 rfl rfl ?_ | refine ldA_f hS 1 rfl rfl ?_ | ((first | refine stN_f hS 0 rfl (lb9 rfl) rfl rfl ?_ | refine stN_f hS 1 rfl (lb9 rfl) rfl rfl ?_ | refine stM_f hS 0 rfl (lb9 rfl) rfl ?_ | refine stM_f hS 1 rfl (lb9 rfl) rfl ?_); (conv => whnf); intro w1 hS) | (refine .mk ⟨by omega, by omega⟩ ?_; refine ix_i hA ?_) | (refine .mk ⟨by omega, by omega⟩ ?_; refine ix_i hB ?_) | refine ldN_elp encM_len (hRA hS.nil).at (i := i) (j0 := 0) hlt rfl (lb9 rfl) [.int .u8 xs[i].s.r, .int .u32 xs[i].s.n] rfl ?_ | refine ldN_elp encM_len (hRB hS.nil).at (i := i) (j0 := 0) hlt2 rfl (lb9 rfl) [.int .u8 ys[i].s.r, .int .u32 ys[i].s.n] rfl ?_ | refine neDot xs[i].s.r xs[i].s.n ys[i].s.r ys[i].s.n ?_ | (refine dr9 hS ?_; intro w1 hS) | refine br_t (by assumption) ?_ | refine br_f (by assumption) ?_)
          refine ⟨?_, hS.nil⟩
          rw [hg (by simpa using hlt) (by simpa using hlt2) (by rw [hss, hd]; rfl)]
          rfl
        | true =>
          have gd : (!(xs[i].s.r == ys[i].s.r && (xs[i].s.n == ys[i].s.n && true))) = false := by rw [hd]; rfl
          have hmx := List.getElem_mem hlt
          have hmy := List.getElem_mem hlt2
          cases hq : sameV xs[i].s.v ys[i].s.v with
          | false =>
            rw [hq] at hsame
            repeat ((conv => whnf); first | (apply q_i; focus (intro w1 hS; (conv => whnf); first | exact ⟨rfl, rfl⟩ | ((first | refine ld_f hS 0 rfl rfl ?_ | refine ld_f hS 1 rfl rfl ?_ | refine ldA_f hS 0 rfl rfl ?_ | refine ldA_f hS 1 rfl rfl ?_); (conv => whnf); exact ⟨rfl, rfl⟩))) | (refine nw_f hS ?_; intro b w1 hS) | refine as_i hS ?_ | refine as_i (hS.subs (List.nil_sublist _) sb9) ?_ | refine as_i (hS.subs (List.Sublist.refl _) sb9) ?_ | refine bar_f hS ?_ | refine ld_f hS 0 rfl rfl ?_ | refine ld_f hS 1 rfl rfl ?_ | refine ldA_f hS 0 rfl rfl ?_ | refine ldA_f hS 1 rfl rfl ?_ | ((first | refine stN_f hS 0 rfl (lb9 rfl) rfl rfl ?_ | refine stN_f hS 1 rfl (lb9 rfl) rfl rfl ?_ | refine stM_f hS 0 rfl (lb9 rfl) rfl ?_ | refine stM_f hS 1 rfl (lb9 rfl) rfl ?_); (conv => whnf); intro w1 hS) | refine br_t (by assumption) ?_ | refine br_f (by assumption) ?_)
            refine drawf TB_ok rfl (by kernel_rfl) (by kernel_rfl) hS (List.Sublist.refl _) (List.Sublist.refl _) ?_; intro w1 hS
            repeat ((conv => whnf); first | (apply q_i; focus (intro w1 hS; (conv => whnf); first | exact ⟨rfl, rfl⟩ | ((first | refine ld_f hS 0 rfl rfl ?_ | refine ld_f hS 1 rfl rfl ?_ | refine ldA_f hS 0 rfl rfl ?_ | refine ldA_f hS 1 rfl rfl ?_); (conv => whnf); exact ⟨rfl, rfl⟩) | ((refine .mk ⟨by omega, by omega⟩ ?_; refine ix_i hA ?_); (conv => whnf); exact ⟨rfl, rfl⟩) | ((refine .mk ⟨by omega, by omega⟩ ?_; refine ix_i hB ?_); (conv => whnf); exact ⟨rfl, rfl⟩) | ((refine ldN_elp encM_len (hRA hS.nil).at (i := i) (j0 := 0) hlt rfl (lb9 rfl) [.int .u8 xs[i].s.r, .int .u32 xs[i].s.n] rfl ?_); (conv => whnf); exact ⟨rfl, rfl⟩) | ((refine ldN_elp encM_len (hRB hS.nil).at (i := i) (j0 := 0) hlt2 rfl (lb9 rfl) [.int .u8 ys[i].s.r, .int .u32 ys[i].s.n] rfl ?_); (conv => whnf); exact ⟨rfl, rfl⟩) | ((refine ldN_elp encM_len (hRA hS.nil).at (i := i) (j0 := 2) hlt rfl (lb9 rfl) [.bool xs[i].s.v.d, .int .i64 xs[i].s.v.n, .slice xs[i].A xs[i].s.v.ks.length xs[i].c] rfl ?_); (conv => whnf); exact ⟨rfl, rfl⟩) | ((refine ldN_elp encM_len (hRB hS.nil).at (i := i) (j0 := 2) hlt2 rfl (lb9 rfl) [.bool ys[i].s.v.d, .int .i64 ys[i].s.v.n, .slice ys[i].A ys[i].s.v.ks.length ys[i].c] rfl ?_); (conv => whnf); exact ⟨rfl, rfl⟩) | ((refine neDot xs[i].s.r xs[i].s.n ys[i].s.r ys[i].s.n ?_); (conv => whnf); exact ⟨rfl, rfl⟩))) | (refine nw_f hS ?_; intro b w1 hS) | refine as_i hS ?_ | refine as_i (hS.subs (List.nil_sublist _) sb9) ?_ | refine as_i (hS.subs (List.Sublist.refl _) sb9) ?_ | refine bar_f hS ?_ | refine ld_f hS 0 rfl rfl ?_ | refine ld_f hS 1 rfl rfl ?_ | refine ldA_f hS 0 rfl rfl ?_ | refine ldA_f hS 1 rfl rfl ?_ | ((first | refine stN_f hS 0 rfl (lb9 rfl) rfl rfl ?_ | refine stN_f hS 1 rfl (lb9 rfl) rfl rfl ?_ | refine stM_f hS 0 rfl (lb9 rfl) rfl ?_ | refine stM_f hS 1 rfl (lb9 rfl) rfl ?_); (conv => whnf); intro w1 hS) | (refine .mk ⟨by omega, by omega⟩ ?_; refine ix_i hA ?_) | (refine .mk ⟨by omega, by omega⟩ ?_; refine ix_i hB ?_) | refine ldN_elp encM_len (hRA hS.nil).at (i := i) (j0 := 0) hlt rfl (lb9 rfl) [.int .u8 xs[i].s.r, .int .u32 xs[i].s.n] rfl ?_ | refine ldN_elp encM_len (hRB hS.nil).at (i := i) (j0 := 0) hlt2 rfl (lb9 rfl) [.int .u8 ys[i].s.r, .int .u32 ys[i].s.n] rfl ?_ | refine ldN_elp encM_len (hRA hS.nil).at (i := i) (j0 := 2) hlt rfl (lb9 rfl) [.bool xs[i].s.v.d, .int .i64 xs[i].s.v.n, .slice xs[i].A xs[i].s.v.ks.length xs[i].c] rfl ?_ | refine ldN_elp encM_len (hRB hS.nil).at (i := i) (j0 := 2) hlt2 rfl (lb9 rfl) [.bool ys[i].s.v.d, .int .i64 ys[i].s.v.n, .slice ys[i].A ys[i].s.v.ks.length ys[i].c] rfl ?_ | refine neDot xs[i].s.r xs[i].s.n ys[i].s.r ys[i].s.n ?_ | (refine fc_m (hsame _ ((hx.el _ hmx).below hS.nil) ((hy.el _ hmy).below hS.nil) (by omega)) ?_; rintro v w3 ⟨rfl, hS'⟩; replace hS := hS.call0 hS') | (refine dr9 hS ?_; intro w1 hS) | refine br_t (by assumption) ?_ | refine br_f (by assumption) ?_)
            refine ⟨?_, hS.nil⟩
            rw [hg (by simpa using hlt) (by simpa using hlt2) (by rw [hss, hd, hq]; rfl)]
            rfl
          | true =>
            rw [hq] at hsame
            repeat ((conv => whnf); first | (apply q_i; focus (intro w1 hS; (conv => whnf); first | exact ⟨rfl, rfl⟩ | ((first | refine ld_f hS 0 rfl rfl ?_ | refine ld_f hS 1 rfl rfl ?_ | refine ldA_f hS 0 rfl rfl ?_ | refine ldA_f hS 1 rfl rfl ?_); (conv => whnf); exact ⟨rfl, rfl⟩))) | (refine nw_f hS ?_; intro b w1 hS) | refine as_i hS ?_ | refine as_i (hS.subs (List.nil_sublist _) sb9) ?_ | refine as_i (hS.subs (List.Sublist.refl _) sb9) ?_ | refine bar_f hS ?_ | refine ld_f hS 0 rfl rfl ?_ | refine ld_f hS 1 rfl rfl ?_ | refine ldA_f hS 0 rfl rfl ?_ | refine ldA_f hS 1 rfl rfl ?_ | ((first | refine stN_f hS 0 rfl (lb9 rfl) rfl rfl ?_ | refine stN_f hS 1 rfl (lb9 rfl) rfl rfl ?_ | refine stM_f hS 0 rfl (lb9 rfl) rfl ?_ | refine stM_f hS 1 rfl (lb9 rfl) rfl ?_); (conv => whnf); intro w1 hS) | refine br_t (by assumption) ?_ | refine br_f (by assumption) ?_)
            refine drawf TB_ok rfl (by kernel_rfl) (by kernel_rfl) hS (List.Sublist.refl _) (List.Sublist.refl _) ?_; intro w1 hS
            repeat ((conv => whnf); first | (apply q_i; focus (intro w1 hS; (conv => whnf); first | exact ⟨rfl, rfl⟩ | ((first | refine ld_f hS 0 rfl rfl ?_ | refine ld_f hS 1 rfl rfl ?_ | refine ldA_f hS 0 rfl rfl ?_ | refine ldA_f hS 1 rfl rfl ?_); (conv => whnf); exact ⟨rfl, rfl⟩) | ((refine .mk ⟨by omega, by omega⟩ ?_; refine ix_i hA ?_); (conv => whnf); exact ⟨rfl, rfl⟩) | ((refine .mk ⟨by omega, by omega⟩ ?_; refine ix_i hB ?_); (conv => whnf); exact ⟨rfl, rfl⟩) | ((refine ldN_elp encM_len (hRA hS.nil).at (i := i) (j0 := 0) hlt rfl (lb9 rfl) [.int .u8 xs[i].s.r, .int .u32 xs[i].s.n] rfl ?_); (conv => whnf); exact ⟨rfl, rfl⟩) | ((refine ldN_elp encM_len (hRB hS.nil).at (i := i) (j0 := 0) hlt2 rfl (lb9 rfl) [.int .u8 ys[i].s.r, .int .u32 ys[i].s.n] rfl ?_); (conv => whnf); exact ⟨rfl, rfl⟩) | ((refine ldN_elp encM_len (hRA hS.nil).at (i := i) (j0 := 2) hlt rfl (lb9 rfl) [.bool xs[i].s.v.d, .int .i64 xs[i].s.v.n, .slice xs[i].A xs[i].s.v.ks.length xs[i].c] rfl ?_); (conv => whnf); exact ⟨rfl, rfl⟩) | ((refine ldN_elp encM_len (hRB hS.nil).at (i := i) (j0 := 2) hlt2 rfl (lb9 rfl) [.bool ys[i].s.v.d, .int .i64 ys[i].s.v.n, .slice ys[i].A ys[i].s.v.ks.length ys[i].c] rfl ?_); (conv => whnf); exact ⟨rfl, rfl⟩) | ((refine neDot xs[i].s.r xs[i].s.n ys[i].s.r ys[i].s.n ?_); (conv => whnf); exact ⟨rfl, rfl⟩))) | (refine nw_f hS ?_; intro b w1 hS) | refine as_i hS ?_ | refine as_i (hS.subs (List.nil_sublist _) sb9) ?_ | refine as_i (hS.subs (List.Sublist.refl _) sb9) ?_ | refine bar_f hS ?_ | refine ld_f hS 0 rfl rfl ?_ | refine ld_f hS 1 rfl rfl ?_ | refine ldA_f hS 0 rfl rfl ?_ | refine ldA_f hS 1 rfl rfl ?_ | ((first | refine stN_f hS 0 rfl (lb9 rfl) rfl rfl ?_ | refine stN_f hS 1 rfl (lb9 rfl) rfl rfl ?_ | refine stM_f hS 0 rfl (lb9 rfl) rfl ?_ | refine stM_f hS 1 rfl (lb9 rfl) rfl ?_); (conv => whnf); intro w1 hS) | (refine .mk ⟨by omega, by omega⟩ ?_; refine ix_i hA ?_) | (refine .mk ⟨by omega, by omega⟩ ?_; refine ix_i hB ?_) | refine ldN_elp encM_len (hRA hS.nil).at (i := i) (j0 := 0) hlt rfl (lb9 rfl) [.int .u8 xs[i].s.r, .int .u32 xs[i].s.n] rfl ?_ | refine ldN_elp encM_len (hRB hS.nil).at (i := i) (j0 := 0) hlt2 rfl (lb9 rfl) [.int .u8 ys[i].s.r, .int .u32 ys[i].s.n] rfl ?_ | refine ldN_elp encM_len (hRA hS.nil).at (i := i) (j0 := 2) hlt rfl (lb9 rfl) [.bool xs[i].s.v.d, .int .i64 xs[i].s.v.n, .slice xs[i].A xs[i].s.v.ks.length xs[i].c] rfl ?_ | refine ldN_elp encM_len (hRB hS.nil).at (i := i) (j0 := 2) hlt2 rfl (lb9 rfl) [.bool ys[i].s.v.d, .int .i64 ys[i].s.v.n, .slice ys[i].A ys[i].s.v.ks.length ys[i].c] rfl ?_ | refine neDot xs[i].s.r xs[i].s.n ys[i].s.r ys[i].s.n ?_ | (refine fc_m (hsame _ ((hx.el _ hmx).below hS.nil) ((hy.el _ hmy).below hS.nil) (by omega)) ?_; rintro v w3 ⟨rfl, hS'⟩; replace hS := hS.call0 hS') | (refine dr9 hS ?_; intro w1 hS) | refine br_t (by assumption) ?_ | refine br_f (by assumption) ?_)
            refine ⟨rfl, i + 1, ?_, ⟨by omega, by rw [ht, hsm, hss, hd, hq]; rfl, hS⟩, by omega⟩
            rw [wi hlt (by omega)]
            rfl
      · have hge : i = xs.length := by have := of_decide_eq_false hb; omega
        rw [List.take_of_length_le (by simp; omega), List.take_of_length_le (by simp; omega)] at hsm
        rw [hsm]
        repeat ((conv => whnf); first | (apply q_i; focus (intro w1 hS; (conv => whnf); first | exact ⟨rfl, rfl⟩ | ((first | refine ld_f hS 0 rfl rfl ?_ | refine ld_f hS 1 rfl rfl ?_ | refine ldA_f hS 0 rfl rfl ?_ | refine ldA_f hS 1 rfl rfl ?_); (conv => whnf); exact ⟨rfl, rfl⟩))) | (refine nw_f hS ?_; intro b w1 hS) | refine as_i hS ?_ | refine as_i (hS.subs (List.nil_sublist _) sb9) ?_ | refine as_i (hS.subs (List.Sublist.refl _) sb9) ?_ | refine bar_f hS ?_ | refine ld_f hS 0 rfl rfl ?_ | refine ld_f hS 1 rfl rfl ?_ | refine ldA_f hS 0 rfl rfl ?_ | refine ldA_f hS 1 rfl rfl ?_ | ((first | refine stN_f hS 0 rfl (lb9 rfl) rfl rfl ?_ | refine stN_f hS 1 rfl (lb9 rfl) rfl rfl ?_ | refine stM_f hS 0 rfl (lb9 rfl) rfl ?_ | refine stM_f hS 1 rfl (lb9 rfl) rfl ?_); (conv => whnf); intro w1 hS) | (refine dr9 hS ?_; intro w1 hS) | refine br_t (by assumption) ?_ | refine br_f (by assumption) ?_)
        exact ⟨rfl, hS.nil⟩
    · have g0 : ((xs.length : Int) != (ys.length : Int)) = true := by simp; omega
      rw [sameSs_no _ _ (by simpa using hll)]
      repeat ((conv => whnf); first | (apply q_i; focus (intro w1 hS; (conv => whnf); first | exact ⟨rfl, rfl⟩ | ((first | refine ld_f hS 0 rfl rfl ?_ | refine ld_f hS 1 rfl rfl ?_ | refine ldA_f hS 0 rfl rfl ?_ | refine ldA_f hS 1 rfl rfl ?_); (conv => whnf); exact ⟨rfl, rfl⟩) | ((refine ldN_f hS 0 rfl (lb9 rfl) ?_); (conv => whnf); exact ⟨rfl, rfl⟩) | ((refine ldN_f hS 1 rfl (lb9 rfl) ?_); (conv => whnf); exact ⟨rfl, rfl⟩) | ((refine neVec f g ?_); (conv => whnf); exact ⟨rfl, rfl⟩))) | (refine nw_f hS ?_; intro b w1 hS) | refine as_i hS ?_ | refine as_i (hS.subs (List.nil_sublist _) sb9) ?_ | refine as_i (hS.subs (List.Sublist.refl _) sb9) ?_ | refine bar_f hS ?_ | refine ld_f hS 0 rfl rfl ?_ | refine ld_f hS 1 rfl rfl ?_ | refine ldA_f hS 0 rfl rfl ?_ | refine ldA_f hS 1 rfl rfl ?_ | ((first | refine stN_f hS 0 rfl (lb9 rfl) rfl rfl ?_ | refine stN_f hS 1 rfl (lb9 rfl) rfl rfl ?_ | refine stM_f hS 0 rfl (lb9 rfl) rfl ?_ | refine stM_f hS 1 rfl (lb9 rfl) rfl ?_); (conv => whnf); intro w1 hS) | refine ldN_f hS 0 rfl (lb9 rfl) ?_ | refine ldN_f hS 1 rfl (lb9 rfl) ?_ | refine neVec f g ?_ | (refine dr9 hS ?_; intro w1 hS) | refine br_t (by assumption) ?_ | refine br_f (by assumption) ?_)
      exact ⟨rfl, hS.nil⟩
end Go.RV

set_option maxRecDepth 20000
set_option linter.unusedVariables false
set_option linter.unusedSimpArgs false
namespace Go.RV
open Go Go.Proofs Go.RowKit

theorem sameV_iff {a b : Va} : sameV a b = true ↔ a = b := by
  cases a; cases b
  simp [sameV, sameB]
theorem sameS_iff {a b : Sv} : sameS a b = true ↔ a = b := by
  cases a; cases b
  simp [sameS, sameV_iff, and_assoc]
theorem sameSs_iff : ∀ {a b : List Sv}, sameSs a b = true ↔ a = b
  | [], [] => by simp [sameSs]
  | [], _ :: _ => by simp [sameSs]
  | _ :: _, [] => by simp [sameSs]
  | x :: xs, y :: ys => by simp [sameSs, sameS_iff, sameSs_iff (a := xs) (b := ys)]
/-- alike: but for what stands behind the eighth number of a vector -/
structure Lk (a b : Rx) : Prop where
  eq : a = { b with f := a.f, g := a.g }
  f : ∀ j, j < 8 → a.f j = b.f j
  g : ∀ j, j < 8 → a.g j = b.g j
theorem sameR_iff {a b : Rx} : sameR a b = true ↔ Lk a b := by
  unfold sameR
  simp only [Bool.and_eq_true, beq_iff_eq, decide_eq_true_eq, eq3, eq4, sameV_iff, sameSs_iff, veq_iff]
  constructor
  · rintro ⟨h1, h2, ⟨h3, h4, h5, _⟩, ⟨h6, h7, h8, _⟩, h9, h10, h11, h12, h13, h14, h15, h16, ⟨h17, h18, h19, h20, _⟩⟩
    refine ⟨?_, h10, h16⟩
    cases a; cases b
    simp only at *
    subst h1 h2 h3 h4 h5 h6 h7 h8 h9 h11 h12 h13 h14 h15 h17 h18 h19 h20
    rfl
  · rintro ⟨h, hf, hg⟩
    cases a; cases b
    simp only [Rx.mk.injEq] at h hf hg ⊢
    obtain ⟨h1, h2, h3, h4, h5, h6, h7, h8, h9, _, h11, h12, h13, h14, h15, _, h17, h18, h19, h20⟩ := h
    exact ⟨h1, h2, ⟨h3, h4, h5, trivial⟩, ⟨h6, h7, h8, trivial⟩, h9, hf, h11, h12, h13, h14, h15, hg, ⟨h17, h18, h19, h20, trivial⟩⟩
theorem Lk.refl (a : Rx) : Lk a a := ⟨rfl, fun _ _ => rfl, fun _ _ => rfl⟩
theorem sameR_self (a : Rx) : sameR a a = true := sameR_iff.2 (.refl a)
theorem Lk.symm {a b : Rx} (h : Lk a b) : Lk b a := by
  refine ⟨?_, fun j hj => (h.f j hj).symm, fun j hj => (h.g j hj).symm⟩
  have := h.eq
  rw [this]
theorem Lk.trans {a b c : Rx} (h : Lk a b) (h2 : Lk b c) : Lk a c := by
  refine ⟨?_, fun j hj => (h.f j hj).trans (h2.f j hj), fun j hj => (h.g j hj).trans (h2.g j hj)⟩
  have e1 := h.eq
  have e2 := h2.eq
  rw [e2] at e1
  exact e1
theorem checkS_cg {f g : Nat → Int} (h : ∀ j, j < 8 → f j = g j) {xs : List Sv} (hx : ∀ s ∈ xs, 0 ≤ s.r) : checkS f xs = checkS g xs := by
  unfold checkS
  exact checkC_cg h (fun x hm => by obtain ⟨s, hs, rfl⟩ := List.mem_map.1 hm; exact hx s hs)
theorem Lk.may {a b : Rx} (h : Lk a b) (ho : ∀ s ∈ b.xs, 0 ≤ s.r) : mayR a = mayR b := by
  have e := h.eq
  have hf := h.f
  have hg := h.g
  generalize a.f = f at *
  generalize a.g = g at *
  subst e
  unfold mayR regB
  simp only
  rw [checkS_cg hf ho, mayVB_congr hg]
theorem Lk.need {a b : Rx} (h : Lk a b) : Lk (needR a) (needR b) := by
  have e := h.eq
  have hf := h.f
  have hg := h.g
  generalize a.f = f at *
  generalize a.g = g at *
  subst e
  unfold needR
  simp only
  repeat' split
  all_goals exact ⟨rfl, fun j hj => by first | exact hf j hj | rfl, fun j hj => by first | exact hg j hj | rfl⟩
theorem Lk.check {a b : Rx} (h : Lk a b) (ho : ∀ s ∈ b.xs, 0 ≤ s.r) : checkR a = checkR b := by
  unfold checkR
  rw [h.may ho]
  congr 1
  rw [Bool.eq_iff_iff, sameR_iff, sameR_iff]
  exact ⟨fun q => h.symm.trans (q.trans h.need), fun q => h.trans (q.trans h.need.symm)⟩
theorem Lk.text {a b : Rx} (h : Lk a b) : recT a = recT b := by
  have e := h.eq
  have hf := h.f
  have hg := h.g
  generalize a.f = f at *
  generalize a.g = g at *
  subst e
  unfold recT restT
  simp only
  rw [ctxT_cg hf, ctxT_cg hg]
def c8 (f : Nat → Int) : Nat → Int := fun j => if j < 8 then f j else 0
theorem c8_zero : c8 zeroF = zeroF := by funext j; unfold c8 zeroF; split <;> rfl
def cutR (x : Rx) : Rx := { x with f := c8 x.f, g := c8 x.g }
theorem cut_lk (x : Rx) : Lk (cutR x) x := ⟨rfl, fun j hj => if_pos hj, fun j hj => if_pos hj⟩
theorem one_back {n : Int} (h : 0 ≤ n ∧ n ≤ 255) (r : List UInt8) : numW 1 ⟨be n 1 ++ r, 0⟩ = n ∧ aftW 1 ⟨be n 1 ++ r, 0⟩ = ⟨r, 0⟩ := by
  unfold numW aftW
  rw [fixedR_all (by rw [be_len])]
  refine ⟨?_, rfl⟩
  rw [numF_be1 h.1]
  omega
theorem two_back {n : Int} (h : 0 ≤ n ∧ n ≤ 65535) (r : List UInt8) : numW 2 ⟨be n 2 ++ r, 0⟩ = n ∧ aftW 2 ⟨be n 2 ++ r, 0⟩ = ⟨r, 0⟩ := by
  unfold numW aftW
  rw [fixedR_all (by rw [be_len])]
  refine ⟨?_, rfl⟩
  rw [numF_be2 h.1]
  omega
theorem four_back {n : Int} (h : 0 ≤ n ∧ n ≤ 4294967295) (r : List UInt8) : numW 4 ⟨be n 4 ++ r, 0⟩ = n ∧ aftW 4 ⟨be n 4 ++ r, 0⟩ = ⟨r, 0⟩ := by
  unfold numW aftW
  rw [fixedR_all (by rw [be_len])]
  exact ⟨numF_be4 h.1 h.2, rfl⟩
theorem pth_back {p : List UInt8} (hp : p.length ≤ 255) (r : List UInt8) : pthR ⟨pathT p ++ r, 0⟩ = (⟨r, 0⟩, p) := by
  unfold pthR pathT
  obtain ⟨h1, h2⟩ := one_back (n := p.length) (by omega) (p ++ r)
  rw [List.append_assoc, h1, h2, fixedR_all rfl]
theorem vec_back (f : Nat → Int) (hf : ∀ j, j < 8 → 0 ≤ f j ∧ f j ≤ 65535) (r : List UInt8) : vecR ⟨ctxT f ++ r, 0⟩ = (⟨r, 0⟩, c8 f) := ctx_back f hf r
theorem va_back (v : Va) (ho : okVa v) (hk : okV v = true) (r : List UInt8) : vaR ⟨vaT v ++ r, 0⟩ = (⟨r, 0⟩, v) := by
  obtain ⟨h1, h2⟩ := val_back v.d v.n v.ks ho.2 hk r
  unfold vaR vaT
  rw [h1, h2]
  rfl
theorem sb_back (s : Sv) (ho : okSv s) (hn : s.n ≤ 65535) (hk : okV s.v = true) (r : List UInt8) : sbR ⟨sbT s ++ r, 0⟩ = (⟨r, 0⟩, s) := by
  obtain ⟨h1, h2⟩ := one_back (n := s.r) ho.1 (be s.n 2 ++ (vaT s.v ++ r))
  obtain ⟨h3, h4⟩ := two_back (n := s.n) ⟨ho.2.1.1, hn⟩ (vaT s.v ++ r)
  unfold sbR sbT
  rw [List.append_assoc, List.append_assoc, h1, h2, h3, h4, va_back s.v ho.2.2 hk]
theorem sbs_back (xs : List Sv) (hx : ∀ s ∈ xs, okSv s ∧ s.n ≤ 65535 ∧ okV s.v = true) (r : List UInt8) : ∀ k, k ≤ xs.length → sbsR ⟨sbsT xs ++ r, 0⟩ k = (⟨sbsT (xs.drop k) ++ r, 0⟩, xs.take k)
  | 0, _ => by simp [sbsR]
  | k+1, h => by
    have ih := sbs_back xs hx r k (by omega)
    have hlt : k < xs.length := by omega
    have hd : sbsT (xs.drop k) = sbT xs[k] ++ sbsT (xs.drop (k + 1)) := by
      rw [List.drop_eq_getElem_cons hlt]
      rfl
    have hk := hx _ (List.getElem_mem hlt)
    rw [sbsR, ih]
    simp only
    rw [if_neg (by decide), hd, List.append_assoc, sb_back _ hk.1 hk.2.1 hk.2.2]
    simp only
    rw [if_neg (by decide), List.take_succ_eq_append_getElem hlt]
theorem reg_back (f : Nat → Int) (hf : ∀ j, j < 8 → 0 ≤ f j ∧ f j ≤ 65535) (xs : List Sv) (hl : xs.length ≤ 255) (hx : ∀ s ∈ xs, okSv s ∧ s.n ≤ 65535 ∧ okV s.v = true) (r : List UInt8) :
    regR ⟨ctxT f ++ be xs.length 1 ++ sbsT xs ++ r, 0⟩ = (⟨r, 0⟩, c8 f, xs) := by
  obtain ⟨h1, h2⟩ := one_back (n := xs.length) (by omega) (sbsT xs ++ r)
  have h3 := sbs_back xs hx r xs.length (Nat.le_refl _)
  rw [List.drop_length, List.take_length] at h3
  unfold regR
  rw [List.append_assoc, List.append_assoc, vec_back f hf]
  simp only
  rw [h1, h2, Int.toNat_natCast, h3]
  rfl
theorem needR_1 {x : Rx} (hk : x.k = 1) : needR x = { zeroRx x.k with r := x.r } := by
  unfold needR
  rw [if_pos hk]
theorem needR_2 {x : Rx} (hk : x.k = 2) : needR x = { zeroRx x.k with n0 := x.n0, n1 := x.n1, n2 := x.n2 } := by
  unfold needR
  rw [if_neg (by omega), if_pos hk]
theorem needR_3 {x : Rx} (hk : x.k = 3) : needR x = { zeroRx x.k with rk := x.rk, ra := x.ra, rq := x.rq } := by
  unfold needR
  rw [if_neg (by omega), if_neg (by omega), if_pos hk]
theorem needR_4 {x : Rx} (hk : x.k = 4) : needR x = { zeroRx x.k with p := x.p, f := x.f, xs := x.xs } := by
  unfold needR
  rw [if_neg (by omega), if_neg (by omega), if_neg (by omega), if_pos hk]
theorem needR_5 {x : Rx} (hk : x.k = 5) : needR x = { zeroRx x.k with p := x.p, vi := x.vi, vt := x.vt, vc := x.vc, v := x.v } := by
  unfold needR
  rw [if_neg (by omega), if_neg (by omega), if_neg (by omega), if_neg (by omega), if_pos hk]
theorem needR_6 {x : Rx} (hk : x.k = 6) : needR x = { zeroRx x.k with vi := x.vi } := by
  unfold needR
  rw [if_neg (by omega), if_neg (by omega), if_neg (by omega), if_neg (by omega), if_neg (by omega), if_pos hk]
theorem needR_7 {x : Rx} (hk : x.k = 7) : needR x = { zeroRx x.k with ci := x.ci, cb := x.cb, cr := x.cr, cs := x.cs } := by
  unfold needR
  rw [if_neg (by omega), if_neg (by omega), if_neg (by omega), if_neg (by omega), if_neg (by omega), if_neg (by omega), if_pos hk]
theorem needR_8 {x : Rx} (hk : x.k = 8) : needR x = { zeroRx x.k with r := x.r, p := x.p, g := x.g } := by
  unfold needR
  rw [if_neg (by omega), if_neg (by omega), if_neg (by omega), if_neg (by omega), if_neg (by omega), if_neg (by omega), if_neg (by omega), if_pos hk]
theorem mayV5 {x : Rx} (hk : x.k = 5) (hm : mayR x = true) : namedB x.p = true ∧ okV x.v = true := by
  rw [mayR5 hk, Bool.and_eq_true] at hm
  have := hm.2
  unfold verB at this
  simp only [Bool.and_eq_true] at this
  exact ⟨hm.1, this.2.2.2.2⟩
theorem rec_back (x : Rx) (ho : okR x) (hc : checkR x = true) (r : List UInt8) : oneR ⟨recT x ++ r, 0⟩ = (⟨r, 0⟩, cutR (needR x)) := by
  have hm := checkR_may hc
  obtain ⟨h1, h2⟩ := one_back ho.k (restT x ++ r)
  have e : oneR ⟨recT x ++ r, 0⟩ = bodyR x.k ⟨restT x ++ r, 0⟩ := by
    unfold oneR recT
    rw [List.append_assoc, h1, h2]
  rw [e]
  clear h1 h2 e
  have cz := c8_zero
  rcases checkR_kinds hc with hk | hk | hk | hk | hk | hk | hk | hk
  · rw [bodyR1 _ hk, restT1 hk, needR_1 hk]
    obtain ⟨a1, a2⟩ := one_back ho.r r
    rw [a1, a2]
    unfold cutR
    simp only [zeroRx, cz]
  · rw [bodyR2 _ hk, restT2 hk, needR_2 hk]
    obtain ⟨a1, a2⟩ := four_back ho.n0 (be x.n1 4 ++ (be x.n2 4 ++ r))
    obtain ⟨a3, a4⟩ := four_back ho.n1 (be x.n2 4 ++ r)
    obtain ⟨a5, a6⟩ := four_back ho.n2 r
    simp only [List.append_assoc]
    rw [a1, a2, a3, a4, a5, a6]
    unfold cutR
    simp only [zeroRx, cz]
  · rw [bodyR3 _ hk, restT3 hk, needR_3 hk]
    rw [mayR3 hk, Bool.and_eq_true, inB_iff] at hm
    obtain ⟨a1, a2⟩ := one_back ho.rk (be x.ra 4 ++ (be x.rq 4 ++ r))
    obtain ⟨a3, a4⟩ := four_back ho.ra (be x.rq 4 ++ r)
    obtain ⟨a5, a6⟩ := four_back (n := x.rq) (by omega) r
    simp only [List.append_assoc]
    rw [a1, a2, a3, a4, a5, a6]
    unfold cutR
    simp only [zeroRx, cz]
  · rw [bodyR4 _ hk, restT4 hk, needR_4 hk]
    rw [mayR4 hk, Bool.and_eq_true] at hm
    have hp := namedB_len hm.1
    obtain ⟨hv, h8, he⟩ := regB_parts hm.2
    have a1 := pth_back (p := x.p) (by omega) (ctxT x.f ++ be x.xs.length 1 ++ sbsT x.xs ++ r)
    have a2 := reg_back x.f (fun j hj => ⟨(ho.f j hj).1, mayVB_le hv j hj⟩) x.xs (by omega) (fun s hs => ⟨ho.xs s hs, (hasB_dot (he s hs).1).2.2, (he s hs).2⟩) r
    simp only [List.append_assoc] at a1 a2 ⊢
    rw [a1]
    simp only
    rw [a2]
    unfold cutR
    simp only [zeroRx, cz]
  · rw [bodyR5 _ hk, restT5 hk, needR_5 hk]
    obtain ⟨hn, hvk⟩ := mayV5 hk hm
    have hp := namedB_len hn
    have a1 := pth_back (p := x.p) (by omega) (be x.vi 4 ++ (be x.vt 4 ++ (be x.vc 1 ++ (vaT x.v ++ r))))
    obtain ⟨b1, b2⟩ := four_back ho.vi (be x.vt 4 ++ (be x.vc 1 ++ (vaT x.v ++ r)))
    obtain ⟨b3, b4⟩ := four_back ho.vt (be x.vc 1 ++ (vaT x.v ++ r))
    obtain ⟨b5, b6⟩ := one_back ho.vc (vaT x.v ++ r)
    have b7 := va_back x.v ho.v hvk r
    have hver : verR ⟨be x.vi 4 ++ (be x.vt 4 ++ (be x.vc 1 ++ (vaT x.v ++ r))), 0⟩ = (⟨r, 0⟩, x.vi, x.vt, x.vc, x.v) := by
      unfold verR
      rw [b1, b2, b3, b4, b5, b6, b7]
    simp only [List.append_assoc]
    rw [a1]
    simp only
    rw [hver]
    unfold cutR
    simp only [zeroRx, cz]
  · rw [bodyR6 _ hk, restT6 hk, needR_6 hk]
    obtain ⟨a1, a2⟩ := four_back ho.vi r
    rw [a1, a2]
    unfold cutR
    simp only [zeroRx, cz]
  · rw [bodyR7 _ hk, restT7 hk, needR_7 hk]
    rw [mayR7 hk] at hm
    obtain ⟨q1, q2, q3⟩ := chunkB_in hm
    obtain ⟨b1, b2⟩ := four_back ho.ci (be x.cb 2 ++ (be x.cr 2 ++ (be x.cs 1 ++ r)))
    obtain ⟨b3, b4⟩ := two_back (n := x.cb) (by omega) (be x.cr 2 ++ (be x.cs 1 ++ r))
    obtain ⟨b5, b6⟩ := two_back (n := x.cr) (by omega) (be x.cs 1 ++ r)
    obtain ⟨b7, b8⟩ := one_back (n := x.cs) (by omega) r
    have hch : chkR ⟨be x.ci 4 ++ (be x.cb 2 ++ (be x.cr 2 ++ (be x.cs 1 ++ r))), 0⟩ = (⟨r, 0⟩, x.ci, x.cb, x.cr, x.cs) := by
      unfold chkR
      rw [b1, b2, b3, b4, b5, b6, b7, b8]
    simp only [List.append_assoc]
    rw [hch]
    unfold cutR
    simp only [zeroRx, cz]
  · rw [bodyR8 _ hk, restT8 hk, needR_8 hk]
    rw [mayR8 hk, Bool.and_eq_true, Bool.and_eq_true] at hm
    have hp := namedB_len hm.2.1
    obtain ⟨b1, b2⟩ := one_back ho.r (pathT x.p ++ (ctxT x.g ++ r))
    have b3 := pth_back (p := x.p) (by omega) (ctxT x.g ++ r)
    have b4 := vec_back x.g (fun j hj => ⟨(ho.g j hj).1, mayVB_le hm.2.2 j hj⟩) r
    simp only [List.append_assoc]
    rw [b1, b2, b3]
    simp only
    rw [b4]
    unfold cutR
    simp only [zeroRx, cz]
/-- what is read of a record's text -/
def backR (x : Rx) : Rx := cutR (needR x)
theorem back_lk {x : Rx} (hc : checkR x = true) : Lk (backR x) x := by
  unfold checkR at hc
  rw [Bool.and_eq_true] at hc
  exact (cut_lk _).trans (sameR_iff.1 hc.2).symm
theorem rtake_one (x : Rx) (ho : okR x) (hc : checkR x = true) (r : List UInt8) (acc : List Rx) : takeA (recT x ++ r) acc = takeA r (acc ++ [backR x]) := by
  have hb := back_lk hc
  have hr : ∀ s ∈ x.xs, 0 ≤ s.r := fun s hs => (ho.xs s hs).1.1
  have hne : recT x ++ r ≠ [] := by
    unfold recT
    intro h
    have := congrArg List.length h
    simp only [List.length_append, be_len, List.length_nil] at this
    omega
  rw [takeA_cons hne, rec_back x ho hc r]
  simp only
  rw [if_neg (by decide), if_neg (by rw [show cutR (needR x) = backR x from rfl, hb.check hr, hc]; decide), if_neg]
  · rfl
  · rw [show cutR (needR x) = backR x from rfl, hb.text]
    simp
theorem take_all : ∀ (xs : List Rx), (∀ x ∈ xs, okR x ∧ checkR x = true) → ∀ acc, takeA (xs.flatMap recT) acc = (acc ++ xs.map backR, 0)
  | [], _, acc => by rw [List.flatMap_nil, takeA_nil]; simp
  | x :: xs, h, acc => by
    have hx := h x (by simp)
    rw [List.flatMap_cons, rtake_one x hx.1 hx.2, take_all xs (fun y hy => h y (by simp [hy]))]
    simp
theorem takeA_got : ∀ (n : Nat) (r : List UInt8) (acc : List Rx), r.length ≤ n → ((takeA r acc).2 = 0 ∧ ∃ l, (takeA r acc).1 = acc ++ l ∧ l.flatMap recT = r ∧ ∀ x ∈ l, checkR x = true) ∨ ((takeA r acc).2 ≠ 0 ∧ (takeA r acc).1 = [])
  | 0, r, acc, h => by
    obtain rfl : r = [] := List.eq_nil_of_length_eq_zero (by omega)
    rw [takeA_nil]
    exact .inl ⟨rfl, [], by simp, rfl, fun x hx => nomatch hx⟩
  | n+1, r, acc, h => by
    by_cases hr : r = []
    · subst hr
      rw [takeA_nil]
      exact .inl ⟨rfl, [], by simp, rfl, fun x hx => nomatch hx⟩
    · rw [takeA_cons hr]
      split
      · rename_i he
        exact .inr ⟨he, rfl⟩
      · rename_i he
        split
        · exact .inr ⟨(by decide), rfl⟩
        · rename_i hc
          split
          · exact .inr ⟨(by decide), rfl⟩
          · rename_i ht
            have h1 := oneR_less (r := r) (by simpa using he)
            rcases takeA_got n (oneR ⟨r, 0⟩).1.rest (acc ++ [(oneR ⟨r, 0⟩).2]) (by omega) with ⟨h2, l, h3, h4, h5⟩ | h2
            · refine .inl ⟨h2, (oneR ⟨r, 0⟩).2 :: l, by rw [h3]; simp, ?_, fun x hx => ?_⟩
              · rw [List.flatMap_cons, h4]
                have ht' : recT (oneR ⟨r, 0⟩).2 = r.take (r.length - (oneR ⟨r, 0⟩).1.rest.length) := by simpa using ht
                rw [ht']
                exact oneR_tail
              · rcases List.mem_cons.1 hx with rfl | hx
                · simpa using hc
                · exact h5 x hx
            · exact .inr h2
theorem takeR_got (t : List UInt8) : ((takeR t).2 = 0 ∧ putR (takeR t).1 = (t, 0)) ∨ ((takeR t).2 ≠ 0 ∧ (takeR t).1 = []) := by
  rcases takeA_got t.length t [] (Nat.le_refl _) with ⟨h1, l, h2, h3, h4⟩ | h
  · refine .inl ⟨h1, ?_⟩
    have e : (takeR t).1 = l := by rw [List.nil_append] at h2; exact h2
    rw [e, putR_yes h4, h3]
  · exact .inr h
end Go.RV


set_option maxRecDepth 20000
set_option linter.unusedVariables false
set_option linter.unusedSimpArgs false
namespace Go.RV
open Go Go.Proofs Go.RowKit

theorem fails18_c (t : List UInt8) (ht : t.length ≤ 1000000) (e : Int) (he : e ≠ 0) (h2 : (takeR t).2 = e) (w : World) :
    Fc Tryz.prog 24 [.string (strY t), .int .i64 e] w fun v w' => v = .bool true ∧ St [] w w' [] := by
  have h1 : (takeR t).1 = [] := by
    rcases takeR_got t with h | h
    · exact absurd (h2 ▸ h.1) he
    · exact h.2
  have hge : (e == e) = true := by simp
  refine fc_i TB_ok Tryz.func24 rfl (by kernel_rfl) ?_
  have hS := Sf.refl w
  repeat ((conv => whnf); first | (apply q_i; focus (intro w1 hS; (conv => whnf); first | exact ⟨rfl, rfl⟩)) | (refine nw_f hS ?_; intro b w1 hS) | refine as_i hS ?_ | refine as_i (hS.subs (List.nil_sublist _) sb9) ?_ | refine as_i (hS.subs (List.Sublist.refl _) sb9) ?_ | refine bar_f hS ?_ | (refine dr9 hS ?_; intro w1 hS) | refine br_t (by assumption) ?_ | refine br_f (by assumption) ?_)
  refine fc_m (take18_c t ht _) ?_
  rintro v w1 ⟨A, c, rs, Lv, rfl, hrs, hK, hS'⟩
  rw [h2]
  rw [h1] at hrs
  obtain rfl : rs = [] := List.map_eq_nil_iff.1 hrs.symm
  replace hS := hS.callF hS'
  repeat ((conv => whnf); first | (apply q_i; focus (intro w1 hS; (conv => whnf); first | exact ⟨rfl, rfl⟩)) | (refine nw_f hS ?_; intro b w1 hS) | refine as_i hS ?_ | refine as_i (hS.subs (List.nil_sublist _) sb9) ?_ | refine as_i (hS.subs (List.Sublist.refl _) sb9) ?_ | refine bar_f hS ?_ | (refine dr9 hS ?_; intro w1 hS) | refine br_t (by assumption) ?_ | refine br_f (by assumption) ?_)
  exact ⟨congrArg Value.bool hge, hS.nil⟩
theorem recs1 {rs : List Rm} {y : Rx} (h : [y] = rs.map Rm.x) : ∃ r, rs = [r] ∧ r.x = y := by
  cases rs with
  | nil => cases h
  | cons r rs =>
    simp only [List.map_cons, List.cons.injEq] at h
    obtain ⟨h1, h2⟩ := h
    have : rs = [] := List.map_eq_nil_iff.1 h2.symm
    subst this
    exact ⟨r, rfl, h1.symm⟩
theorem backR_few {x : Rx} (hz : fewR x) : fewR (backR x) := by
  have h1 : (backR x).p = [] ∨ (backR x).p = x.p := by
    show (needR x).p = [] ∨ (needR x).p = x.p
    unfold needR
    repeat' split
    all_goals first
      | exact .inl rfl
      | exact .inr rfl
  have h2 : (backR x).xs = [] ∨ (backR x).xs = x.xs := by
    show (needR x).xs = [] ∨ (needR x).xs = x.xs
    unfold needR
    repeat' split
    all_goals first
      | exact .inl rfl
      | exact .inr rfl
  have h3 : (backR x).v = zeroVa ∨ (backR x).v = x.v := by
    show (needR x).v = zeroVa ∨ (needR x).v = x.v
    unfold needR
    repeat' split
    all_goals first
      | exact .inl rfl
      | exact .inr rfl
  refine ⟨?_, ?_, ?_, ?_⟩
  · rcases h1 with h | h <;> rw [h]
    · simp
    · exact hz.p
  · rcases h2 with h | h <;> rw [h]
    · simp
    · exact hz.l
  · rcases h2 with h | h <;> rw [h]
    · intro s hs; cases hs
    · exact hz.el
  · rcases h3 with h | h <;> rw [h]
    · show (0 : Nat) ≤ 20; decide
    · exact hz.v
theorem puts18_c (x : Rx) (ho : okR x) (hz : fewR x) (hc : checkR x = true) (h : Hd) (ms : List Sm) (want : List UInt8) (hw : recT x = want) (w : World) (hx : MemR w x h ms) :
    Fc Tryz.prog 23 [recV x h, .string (strY want)] w fun v w' => v = .bool true ∧ St [] w w' [] := by
  have hwl : want.length ≤ 300 := by rw [← hw]; exact recT_len hc
  have htk : takeR want = ([backR x], 0) := by
    have := take_all [x] (fun y hy => by obtain rfl := List.mem_singleton.1 hy; exact ⟨ho, hc⟩) []
    rw [List.flatMap_cons, List.flatMap_nil, List.append_nil, hw] at this
    exact this
  have hput := fun A c w' => putR_c A c [⟨x, h, ms⟩] (fun y hy => by obtain rfl := List.mem_singleton.1 hy; exact ⟨ho, hz.sz⟩) (by simp) w'
  have hpe : putR ([(⟨x, h, ms⟩ : Rm)].map Rm.x) = (want, 0) := by
    rw [show ([(⟨x, h, ms⟩ : Rm)].map Rm.x) = [x] from rfl, putR1, if_pos hc, hw]
  rw [hpe] at hput
  have hck := fun w' => check18_c x ho hz.sz h ms w'
  rw [hc] at hck
  have heq : streq (strY want) (strY want) = true := by rw [streq_strY]; simp
  have hb := back_lk hc
  have hsm : sameR (backR x) x = true := sameR_iff.2 hb
  have hbf := backR_few hz
  clear hpe
  refine fc_i TB_ok Tryz.func23 rfl (by kernel_rfl) ?_
  have hS := Sf.refl w
  repeat ((conv => whnf); first | (apply q_i; focus (intro w1 hS; (conv => whnf); first | exact ⟨rfl, rfl⟩ | ((first | refine ld_f hS 0 rfl rfl ?_ | refine ld_f hS 1 rfl rfl ?_ | refine ldA_f hS 0 rfl rfl ?_ | refine ldA_f hS 1 rfl rfl ?_); (conv => whnf); exact ⟨rfl, rfl⟩))) | (refine nw_f hS ?_; intro b w1 hS) | refine as_i hS ?_ | refine as_i (hS.subs (List.nil_sublist _) sb9) ?_ | refine as_i (hS.subs (List.Sublist.refl _) sb9) ?_ | refine bar_f hS ?_ | refine ld_f hS 0 rfl rfl ?_ | refine ld_f hS 1 rfl rfl ?_ | refine ldA_f hS 0 rfl rfl ?_ | refine ldA_f hS 1 rfl rfl ?_ | ((first | refine stN_f hS 0 rfl (lb9 rfl) rfl rfl ?_ | refine stN_f hS 1 rfl (lb9 rfl) rfl rfl ?_ | refine stM_f hS 0 rfl (lb9 rfl) rfl ?_ | refine stM_f hS 1 rfl (lb9 rfl) rfl ?_); (conv => whnf); intro w1 hS) | (refine dr9 hS ?_; intro w1 hS) | refine br_t (by assumption) ?_ | refine br_f (by assumption) ?_)
  refine fc_m (hput _ _ _ ⟨hS.rd 0 rfl, fun y hy => by obtain rfl := List.mem_singleton.1 hy; exact hx.below hS.nil⟩) ?_
  rintro v w1 ⟨rfl, hS'⟩
  replace hS := hS.call0 hS'
  repeat ((conv => whnf); first | (apply q_i; focus (intro w1 hS; (conv => whnf); first | exact ⟨rfl, rfl⟩ | ((first | refine ld_f hS 0 rfl rfl ?_ | refine ld_f hS 1 rfl rfl ?_ | refine ldA_f hS 0 rfl rfl ?_ | refine ldA_f hS 1 rfl rfl ?_); (conv => whnf); exact ⟨rfl, rfl⟩))) | (refine nw_f hS ?_; intro b w1 hS) | refine as_i hS ?_ | refine as_i (hS.subs (List.nil_sublist _) sb9) ?_ | refine as_i (hS.subs (List.Sublist.refl _) sb9) ?_ | refine bar_f hS ?_ | refine ld_f hS 0 rfl rfl ?_ | refine ld_f hS 1 rfl rfl ?_ | refine ldA_f hS 0 rfl rfl ?_ | refine ldA_f hS 1 rfl rfl ?_ | ((first | refine stN_f hS 0 rfl (lb9 rfl) rfl rfl ?_ | refine stN_f hS 1 rfl (lb9 rfl) rfl rfl ?_ | refine stM_f hS 0 rfl (lb9 rfl) rfl ?_ | refine stM_f hS 1 rfl (lb9 rfl) rfl ?_); (conv => whnf); intro w1 hS) | (refine dr9 hS ?_; intro w1 hS) | refine br_t (by assumption) ?_ | refine br_f (by assumption) ?_)
  refine fc_m (take18_c want (by omega) _) ?_
  rintro v w2 ⟨A, c, rs, Lv, rfl, hrs, hK, hS'⟩
  rw [htk] at hrs
  rw [htk]
  obtain ⟨r, rfl, hrx⟩ := recs1 hrs
  replace hS := hS.callF hS'
  have hRf : ∀ {w' : World} {F L : LM}, Sf [] w w' (Lv ++ F) L → RdR w' A [r] := fun h => hK _ (h.st.holds (Ls := Lv) (fun y hy => by simp [hy]))
  obtain ⟨b0, off, rfl⟩ := (hRf hS).rd.form (flat_ne encRm_len (by omega) (show 0 < [r].length by simp))
  have hsame := fun (w' : World) => sameR_c r.x x r.h h r.ms ms w'
  rw [hrx, hsm] at hsame
  have hmr : ∀ {w' : World} {F L : LM}, Sf [] w w' (Lv ++ F) L → MemR w' (backR x) r.h r.ms := fun h => by
    have := (hRf h).el r (by simp)
    rwa [hrx] at this
  have hrec : encRm r = recL (backR x) r.h := by unfold encRm; rw [hrx]
  have hld : ∀ {w' : World} {F L : LM} {o n : Nat} {K : List Value → Prop}, Sf [] w w' (Lv ++ F) L → o = off → n = 36 → K (recL (backR x) r.h) → LdN w' ⟨b0, o, none⟩ n K := fun h ho hn hk =>
    ldN_el encRm_len (hRf h).rd.at (i := 0) (by simp) (by omega) hn (by rw [show [r][0] = r from rfl, hrec]; exact hk)
  have hbl := hbf.l
  have hbv := hbf.v
  have hbe := hbf.el
  have hpl := hz.sz
  repeat ((conv => whnf); first | (apply q_i; focus (intro w1 hS; (conv => whnf); first | exact ⟨rfl, rfl⟩ | ((first | refine ld_f hS 0 rfl rfl ?_ | refine ld_f hS 1 rfl rfl ?_ | refine ldA_f hS 0 rfl rfl ?_ | refine ldA_f hS 1 rfl rfl ?_); (conv => whnf); exact ⟨rfl, rfl⟩) | ((refine .mk ⟨by decide, by simp⟩ ?_; refine ix_i rfl ?_); (conv => whnf); exact ⟨rfl, rfl⟩) | ((refine hld hS rfl rfl ?_); (conv => whnf); exact ⟨rfl, rfl⟩))) | (refine nw_f hS ?_; intro b w1 hS) | refine as_i hS ?_ | refine as_i (hS.subs (List.nil_sublist _) sb9) ?_ | refine as_i (hS.subs (List.Sublist.refl _) sb9) ?_ | refine bar_f hS ?_ | refine ld_f hS 0 rfl rfl ?_ | refine ld_f hS 1 rfl rfl ?_ | refine ldA_f hS 0 rfl rfl ?_ | refine ldA_f hS 1 rfl rfl ?_ | ((first | refine stN_f hS 0 rfl (lb9 rfl) rfl rfl ?_ | refine stN_f hS 1 rfl (lb9 rfl) rfl rfl ?_ | refine stM_f hS 0 rfl (lb9 rfl) rfl ?_ | refine stM_f hS 1 rfl (lb9 rfl) rfl ?_); (conv => whnf); intro w1 hS) | (refine .mk ⟨by decide, by simp⟩ ?_; refine ix_i rfl ?_) | refine hld hS rfl rfl ?_ | (refine fc_m (hsame _ (hmr hS) (hx.below hS.nil) (by omega) (fun s hs => by have := hbe s hs; omega) (by omega)) ?_; rintro v w3 ⟨rfl, hS'⟩; replace hS := hS.call0 hS') | (refine fc_m (hck _ (hx.below hS.nil)) ?_; rintro v w3 ⟨rfl, hS'⟩; replace hS := hS.call0 hS') | (refine dr9 hS ?_; intro w1 hS) | refine br_t (by assumption) ?_ | refine br_f (by assumption) ?_)
  exact ⟨rfl, hS.nil⟩
def wk1 : Rx := { zeroRx 1 with r := 3 }
def wk2 : Rx := { zeroRx 4 with p := [47, 97], f := fun j => if j = 1 then 2 else 0, xs := [⟨1, 2, ⟨true, 0, []⟩⟩] }
theorem wk1_check : checkR wk1 = true := by decide +kernel
theorem wk2_check : checkR wk2 = true := by decide +kernel
theorem wk1_text : recT wk1 = [1, 3] := by decide +kernel
theorem wk2_text : recT wk2 = [4, 2, 47, 97, 2, 0, 2, 1, 1, 0, 2, 1] := by decide +kernel
theorem wk_nine : (takeR [9]).2 = 4 := by decide +kernel
theorem wk_torn : (takeR [1]).2 = 10 := by decide +kernel
end Go.RV


set_option maxRecDepth 20000
set_option linter.unusedVariables false
set_option linter.unusedSimpArgs false
namespace Go.RV
open Go Go.Proofs Go.RowKit

def dirF : Nat → Int := fun j => if j = 1 then 2 else 0
def dirM : Sm := ⟨⟨1, 2, ⟨true, 0, []⟩⟩, none, 0⟩
theorem dir18_c (w : World) : Fc Tryz.prog 26 [] w fun v w' => ∃ q, v = regV dirF (some ⟨q, 0, none⟩) 1 1 ∧ St [] w w' [(q, .cells (encM dirM).toArray 94 (0, 0))] := by
  refine fc_i TB_ok Tryz.func26 rfl (by kernel_rfl) ?_
  have hS := Sf.refl w
  repeat ((conv => whnf); first | (apply q_i; focus (intro w1 hS; (conv => whnf); first | exact ⟨rfl, rfl⟩ | ((first | refine ld_f hS 0 rfl rfl ?_ | refine ld_f hS 1 rfl rfl ?_ | refine ld_f hS 2 rfl rfl ?_ | refine ldA_f hS 0 rfl rfl ?_ | refine ldA_f hS 1 rfl rfl ?_ | refine ldA_f hS 2 rfl rfl ?_); (conv => whnf); exact ⟨rfl, rfl⟩) | ((refine ldN_f hS 0 rfl (lb9 rfl) ?_); (conv => whnf); exact ⟨rfl, rfl⟩) | ((refine ldN_f hS 1 rfl (lb9 rfl) ?_); (conv => whnf); exact ⟨rfl, rfl⟩))) | (refine nw_f hS ?_; intro b w1 hS) | refine as_i hS ?_ | refine as_i (hS.subs (List.nil_sublist _) sb9) ?_ | refine as_i (hS.subs (List.Sublist.refl _) sb9) ?_ | refine bar_f hS ?_ | refine ld_f hS 0 rfl rfl ?_ | refine ld_f hS 1 rfl rfl ?_ | refine ld_f hS 2 rfl rfl ?_ | refine ldA_f hS 0 rfl rfl ?_ | refine ldA_f hS 1 rfl rfl ?_ | refine ldA_f hS 2 rfl rfl ?_ | ((first | refine stN_f hS 0 rfl (lb9 rfl) rfl rfl ?_ | refine stN_f hS 1 rfl (lb9 rfl) rfl rfl ?_ | refine stN_f hS 2 rfl (lb9 rfl) rfl rfl ?_ | refine stM_f hS 0 rfl (lb9 rfl) rfl ?_ | refine stM_f hS 1 rfl (lb9 rfl) rfl ?_ | refine stM_f hS 2 rfl (lb9 rfl) rfl ?_); (conv => whnf); intro w1 hS) | refine ldN_f hS 0 rfl (lb9 rfl) ?_ | refine ldN_f hS 1 rfl (lb9 rfl) ?_ | (refine dr9 hS ?_; intro w1 hS) | refine br_t (by assumption) ?_ | refine br_f (by assumption) ?_)
  exact ⟨_, rfl, hS.sub (.cons_cons _ (.cons _ (.refl _)))⟩
theorem wk1_ok : okR wk1 := { zeroRx_ok (k := 1) (by decide) with r := (by show (0 : Int) ≤ 3 ∧ (3 : Int) ≤ 255; decide) }
theorem wk1_few : fewR wk1 := ⟨Nat.zero_le _, Nat.zero_le _, (fun s hs => (nomatch hs)), Nat.zero_le _⟩
theorem dirF_ok : ∀ j, j < 8 → 0 ≤ dirF j ∧ dirF j ≤ 4294967295 := fun j _ => by unfold dirF; split <;> decide
theorem dir_el : okSv dirM.s := ⟨by decide, by decide, by decide, fun k hk => (nomatch hk)⟩
theorem wk2_ok : okR wk2 := { zeroRx_ok (k := 4) (by decide) with f := dirF_ok, xs := fun s hs => by obtain rfl := List.mem_singleton.1 hs; exact dir_el }
theorem wk2_few : fewR wk2 := ⟨by decide, by decide, fun s hs => by obtain rfl := List.mem_singleton.1 hs; exact Nat.zero_le _, Nat.zero_le _⟩
theorem wk2_mem {w : World} {b : Nat} (hR : Rd w (some ⟨b, 0, none⟩) (flat encM [dirM])) : MemR w wk2 ⟨some ⟨b, 0, none⟩, 1, none, 0⟩ [dirM] :=
  ⟨rfl, ⟨hR, fun m hm => by obtain rfl := List.mem_singleton.1 hm; exact .inl rfl⟩, .inl rfl⟩
theorem works18_c (w : World) : Fc Tryz.prog 8 [] w fun v w' => v = .bool true ∧ St [] w w' [] := by
  refine fc_i TB_ok Tryz.func8 rfl (by kernel_rfl) ?_
  have hS := Sf.refl w
  have p1 := fun (w' : World) => puts18_c wk1 wk1_ok wk1_few wk1_check noHd [] [1, 3] wk1_text w' (mem_none wk1 w' rfl rfl)
  have p2 := fun (w' : World) q => puts18_c wk2 wk2_ok wk2_few wk2_check ⟨some ⟨q, 0, none⟩, 1, none, 0⟩ [dirM] [4, 2, 47, 97, 2, 0, 2, 1, 1, 0, 2, 1] wk2_text w'
  have f1 := fun (w' : World) => fails18_c [9] (by decide) 4 (by decide) wk_nine w'
  have f2 := fun (w' : World) => fails18_c [1] (by decide) 10 (by decide) wk_torn w'
  repeat ((conv => whnf); first | (apply q_i; focus (intro w1 hS; (conv => whnf); first | exact ⟨rfl, rfl⟩)) | (refine nw_f hS ?_; intro b w1 hS) | refine as_i hS ?_ | refine as_i (hS.subs (List.nil_sublist _) sb9) ?_ | refine as_i (hS.subs (List.Sublist.refl _) sb9) ?_ | refine bar_f hS ?_ | (refine dr9 hS ?_; intro w1 hS) | refine br_t (by assumption) ?_ | refine br_f (by assumption) ?_)
  refine fc_m (p1 _) ?_
  rintro v w1 ⟨rfl, hS'⟩
  replace hS := hS.call0 hS'
  repeat ((conv => whnf); first | (apply q_i; focus (intro w1 hS; (conv => whnf); first | exact ⟨rfl, rfl⟩)) | (refine nw_f hS ?_; intro b w1 hS) | refine as_i hS ?_ | refine as_i (hS.subs (List.nil_sublist _) sb9) ?_ | refine as_i (hS.subs (List.Sublist.refl _) sb9) ?_ | refine bar_f hS ?_ | (refine dr9 hS ?_; intro w1 hS) | refine br_t (by assumption) ?_ | refine br_f (by assumption) ?_)
  refine fc_m (dir18_c _) ?_
  rintro v w2 ⟨q, rfl, hS'⟩
  replace hS := hS.call' hS'
  repeat ((conv => whnf); first | (apply q_i; focus (intro w1 hS; (conv => whnf); first | exact ⟨rfl, rfl⟩ | ((first | refine ld_f hS 0 rfl rfl ?_ | refine ldA_f hS 0 rfl rfl ?_); (conv => whnf); exact ⟨rfl, rfl⟩))) | (refine nw_f hS ?_; intro b w1 hS) | refine as_i hS ?_ | refine as_i (hS.subs (List.nil_sublist _) sb9) ?_ | refine as_i (hS.subs (List.Sublist.refl _) sb9) ?_ | refine bar_f hS ?_ | refine ld_f hS 0 rfl rfl ?_ | refine ldA_f hS 0 rfl rfl ?_ | ((first | refine stN_f hS 0 rfl (lb9 rfl) rfl rfl ?_ | refine stM_f hS 0 rfl (lb9 rfl) rfl ?_); (conv => whnf); intro w1 hS) | (refine dr9 hS ?_; intro w1 hS) | refine br_t (by assumption) ?_ | refine br_f (by assumption) ?_)
  refine fc_m (p2 _ q (wk2_mem (hS.rd 0 rfl))) ?_
  rintro v w3 ⟨rfl, hS'⟩
  replace hS := hS.call0 hS'
  repeat ((conv => whnf); first | (apply q_i; focus (intro w1 hS; (conv => whnf); first | exact ⟨rfl, rfl⟩ | ((first | refine ld_f hS 0 rfl rfl ?_ | refine ldA_f hS 0 rfl rfl ?_); (conv => whnf); exact ⟨rfl, rfl⟩))) | (refine nw_f hS ?_; intro b w1 hS) | refine as_i hS ?_ | refine as_i (hS.subs (List.nil_sublist _) sb9) ?_ | refine as_i (hS.subs (List.Sublist.refl _) sb9) ?_ | refine bar_f hS ?_ | refine ld_f hS 0 rfl rfl ?_ | refine ldA_f hS 0 rfl rfl ?_ | ((first | refine stN_f hS 0 rfl (lb9 rfl) rfl rfl ?_ | refine stM_f hS 0 rfl (lb9 rfl) rfl ?_); (conv => whnf); intro w1 hS) | (refine fc_m (f1 _) ?_; rintro v w3 ⟨rfl, hS'⟩; replace hS := hS.call0 hS') | (refine fc_m (f2 _) ?_; rintro v w3 ⟨rfl, hS'⟩; replace hS := hS.call0 hS') | (refine dr9 hS ?_; intro w1 hS) | refine br_t (by assumption) ?_ | refine br_f (by assumption) ?_)
  exact ⟨rfl, hS.nil⟩
end Go.RV


set_option maxRecDepth 20000
set_option linter.unusedVariables false
set_option linter.unusedSimpArgs false
namespace Go.RV
open Go Go.Proofs Go.RowKit

section
variable {w w' : World} {A : Option Addr} {rs : List Rm} {i o n b0 off : Nat}
theorem ld_rec (hR : Rd w (some ⟨b0, off, none⟩) (flat encRm rs)) (hi : i < rs.length) (ho : o = off + i * 36) (hn : n = 36) {K : List Value → Prop} (k : K (recL rs[i].x rs[i].h)) : LdN w ⟨b0, o, none⟩ n K :=
  ldN_el encRm_len hR.at (i := i) hi ho hn k
end
theorem recs_len {t : List UInt8} {rs : List Rm} (h : (takeR t).1 = rs.map Rm.x) : rs.length ≤ t.length := by
  have h1 := takeA_len t.length t [] (Nat.le_refl _)
  have h2 : (takeA t []).1 = rs.map Rm.x := h
  rw [h2, List.length_map] at h1
  simpa using h1
end Go.RV

set_option maxRecDepth 20000
set_option linter.unusedVariables false
set_option linter.unusedSimpArgs false
namespace Go.RV
open Go Go.Proofs Go.RowKit

def qr8L (bq : Nat) (e : Int) : List Value := [.pointer (some ⟨bq, 0, none⟩), .int .i64 e]
def qr8O (bq : Nat) (e : Int) : Obj := .cells (qr8L bq e).toArray 88 (0, 0)
/-- the document's reader, what is left being s -/
structure Q8 (bd bq : Nat) (S : List UInt8) (s : RS) (L : LM) : Prop where
  out : ∃ q Lq, QR bq S q Lq ∧ (s.e = 0 → q = s) ∧ L = (bd, qr8O bq s.e) :: Lq
section
variable {M : List Nat} {w0 w : World} {F L Lq : LM} {x : Nat × Obj}
theorem Sf.in8 (h : Sf M w0 w (Lq ++ F) (x :: L)) : Sf M w0 w ((x :: Lq) ++ F) L := ⟨h.st.perm (pc fun u => by simp only [List.count_append, List.count_cons, List.count_nil]; omega)⟩
theorem Sf.out8 (h : Sf M w0 w ((x :: Lq) ++ F) L) : Sf M w0 w (Lq ++ F) (x :: L) := ⟨h.st.perm (pc fun u => by simp only [List.count_append, List.count_cons, List.count_nil]; omega)⟩
end
theorem fixed8_c (bd bq : Nat) (S : List UInt8) (s : RS) (L : LM) (hQ : Q8 bd bq S s L) (hs : S.length ≤ 4611686018427387904) (W : Int) (w : World) (hS : St (keys L) w w L) :
    Fc Tryz.prog 87 [.pointer (some ⟨bd, 0, none⟩), .int .i64 W] w fun v w' => v = .string (strY (fixedR s W).1) ∧ ∃ L', Q8 bd bq S (fixedR s W).2 L' ∧ St (keys L) w w' L' := by
  obtain ⟨q, Lq, hQq, hq, rfl⟩ := hQ.out
  obtain ⟨M0, hM0⟩ : ∃ M, M = keys ((bd, qr8O bq s.e) :: Lq) := ⟨_, rfl⟩
  rw [← hM0] at hS ⊢
  refine fc_i TB_ok Tryz.func87 rfl (by kernel_rfl) ?_
  have hS : Sf M0 w w (Lq ++ []) [(bd, .cells (qr8L bq s.e).toArray 88 (0, 0))] := ⟨hS.perm (pc fun u => by simp only [List.count_append, List.count_cons, List.count_nil, qr8O]; omega)⟩
  by_cases he : s.e = 0
  · have g1 : (s.e != 0) = false := by simp [he]
    have hqs := hq he
    subst hqs
    have hz := strY_size q.rest
    repeat ((conv => whnf); first | (apply q_i; focus (intro w1 hS; (conv => whnf); first | exact ⟨rfl, rfl⟩ | ((first | refine ld_f hS 0 rfl rfl ?_ | refine ldA_f hS 0 rfl rfl ?_); (conv => whnf); exact ⟨rfl, rfl⟩))) | (refine nw_f hS ?_; intro b w1 hS) | refine as_i hS ?_ | refine as_i (hS.subs (List.nil_sublist _) sb9) ?_ | refine as_i (hS.subs (List.Sublist.refl _) sb9) ?_ | refine bar_f hS ?_ | refine ld_f hS 0 rfl rfl ?_ | refine ldA_f hS 0 rfl rfl ?_ | ((first | refine stN_f hS 0 rfl (lb9 rfl) rfl rfl ?_ | refine stM_f hS 0 rfl (lb9 rfl) rfl ?_); (conv => whnf); intro w1 hS) | (refine dr9 hS ?_; intro w1 hS) | refine br_t (by assumption) ?_ | refine br_f (by assumption) ?_)
    refine fc_m (qrest_c bq S q Lq hQq _ hS.ownF) ?_
    rintro v w1 ⟨rfl, hS'⟩
    replace hS := hS.call0 hS'
    by_cases hlt : (q.rest.length : Int) < W
    · have g2 : decide (((strY q.rest).size : Int) < W) = true := decide_eq_true (by omega)
      have hf : fixedR q W = ([], ⟨[], 10⟩) := by unfold fixedR; rw [if_neg (by omega), if_pos hlt]
      rw [hf]
      repeat ((conv => whnf); first | (apply q_i; focus (intro w1 hS; (conv => whnf); first | exact ⟨rfl, rfl⟩ | ((first | refine ld_f hS 0 rfl rfl ?_ | refine ldA_f hS 0 rfl rfl ?_); (conv => whnf); exact ⟨rfl, rfl⟩))) | (refine nw_f hS ?_; intro b w1 hS) | refine as_i hS ?_ | refine as_i (hS.subs (List.nil_sublist _) sb9) ?_ | refine as_i (hS.subs (List.Sublist.refl _) sb9) ?_ | refine bar_f hS ?_ | refine ld_f hS 0 rfl rfl ?_ | refine ldA_f hS 0 rfl rfl ?_ | ((first | refine stN_f hS 0 rfl (lb9 rfl) rfl rfl ?_ | refine stM_f hS 0 rfl (lb9 rfl) rfl ?_); (conv => whnf); intro w1 hS) | (refine dr9 hS ?_; intro w1 hS) | refine br_t (by assumption) ?_ | refine br_f (by assumption) ?_)
      exact ⟨rfl, _, ⟨q, Lq, hQq, fun h => absurd h (by decide), rfl⟩, hS.st.perm (pc fun u => by simp only [List.count_append, List.count_cons, List.count_nil, qr8O, qr8L]; omega)⟩
    · have g2 : decide (((strY q.rest).size : Int) < W) = false := decide_eq_false (by omega)
      have hfe : (fixedR q W).2.e = q.e := by
        unfold fixedR
        split
        · rfl
        · rfl
      repeat ((conv => whnf); first | (apply q_i; focus (intro w1 hS; (conv => whnf); first | exact ⟨rfl, rfl⟩ | ((first | refine ld_f hS 0 rfl rfl ?_ | refine ldA_f hS 0 rfl rfl ?_); (conv => whnf); exact ⟨rfl, rfl⟩))) | (refine nw_f hS ?_; intro b w1 hS) | refine as_i hS ?_ | refine as_i (hS.subs (List.nil_sublist _) sb9) ?_ | refine as_i (hS.subs (List.Sublist.refl _) sb9) ?_ | refine bar_f hS ?_ | refine ld_f hS 0 rfl rfl ?_ | refine ldA_f hS 0 rfl rfl ?_ | ((first | refine stN_f hS 0 rfl (lb9 rfl) rfl rfl ?_ | refine stM_f hS 0 rfl (lb9 rfl) rfl ?_); (conv => whnf); intro w1 hS) | (refine dr9 hS ?_; intro w1 hS) | refine br_t (by assumption) ?_ | refine br_f (by assumption) ?_)
      refine fc_m (qfixed_c bq S q Lq hQq hs W _ hS.ownF) ?_
      rintro v w2 ⟨rfl, Lq', hQ', hS'⟩
      replace hS := hS.callW hS'
      repeat ((conv => whnf); first | (apply q_i; focus (intro w1 hS; (conv => whnf); first | exact ⟨rfl, rfl⟩ | ((first | refine ld_f hS 0 rfl rfl ?_ | refine ldA_f hS 0 rfl rfl ?_); (conv => whnf); exact ⟨rfl, rfl⟩))) | (refine nw_f hS ?_; intro b w1 hS) | refine as_i hS ?_ | refine as_i (hS.subs (List.nil_sublist _) sb9) ?_ | refine as_i (hS.subs (List.Sublist.refl _) sb9) ?_ | refine bar_f hS ?_ | refine ld_f hS 0 rfl rfl ?_ | refine ldA_f hS 0 rfl rfl ?_ | ((first | refine stN_f hS 0 rfl (lb9 rfl) rfl rfl ?_ | refine stM_f hS 0 rfl (lb9 rfl) rfl ?_); (conv => whnf); intro w1 hS) | (refine dr9 hS ?_; intro w1 hS) | refine br_t (by assumption) ?_ | refine br_f (by assumption) ?_)
      refine ⟨rfl, _, ⟨_, Lq', hQ', fun _ => rfl, rfl⟩, ?_⟩
      rw [hfe]
      exact hS.st.perm (pc fun u => by simp only [List.count_append, List.count_cons, List.count_nil, qr8O, qr8L]; omega)
  · have g1 : (s.e != 0) = true := by simp [he]
    rw [fixedR_err he]
    repeat ((conv => whnf); first | (apply q_i; focus (intro w1 hS; (conv => whnf); first | exact ⟨rfl, rfl⟩ | ((first | refine ld_f hS 0 rfl rfl ?_ | refine ldA_f hS 0 rfl rfl ?_); (conv => whnf); exact ⟨rfl, rfl⟩))) | (refine nw_f hS ?_; intro b w1 hS) | refine as_i hS ?_ | refine as_i (hS.subs (List.nil_sublist _) sb9) ?_ | refine as_i (hS.subs (List.Sublist.refl _) sb9) ?_ | refine bar_f hS ?_ | refine ld_f hS 0 rfl rfl ?_ | refine ldA_f hS 0 rfl rfl ?_ | ((first | refine stN_f hS 0 rfl (lb9 rfl) rfl rfl ?_ | refine stM_f hS 0 rfl (lb9 rfl) rfl ?_); (conv => whnf); intro w1 hS) | (refine dr9 hS ?_; intro w1 hS) | refine br_t (by assumption) ?_ | refine br_f (by assumption) ?_)
    exact ⟨rfl, _, ⟨q, Lq, hQq, fun h => absurd h he, rfl⟩, hS.st.perm (pc fun u => by simp only [List.count_append, List.count_cons, List.count_nil, qr8O, qr8L]; omega)⟩
theorem num8_c (bd bq : Nat) (S : List UInt8) (s : RS) (L : LM) (hQ : Q8 bd bq S s L) (hs : S.length ≤ 4611686018427387904) (W : Nat) (hW : W ≤ 4) (w : World) (hS : St (keys L) w w L) :
    Fc Tryz.prog 55 [.pointer (some ⟨bd, 0, none⟩), .int .i64 W] w fun v w' => v = .int .u32 (numW W s) ∧ ∃ L', Q8 bd bq S (aftW W s) L' ∧ St (keys L) w w' L' := by
  refine fc_i TB_ok Tryz.func55 rfl (by kernel_rfl) ?_
  have hS : Sf (keys L) w w (L ++ []) [] := ⟨by simpa using hS⟩
  repeat ((conv => whnf); first | (apply q_i; focus (intro w1 hS; (conv => whnf); first | exact ⟨rfl, rfl⟩ | ((first | refine ld_f hS 0 rfl rfl ?_ | refine ldA_f hS 0 rfl rfl ?_); (conv => whnf); exact ⟨rfl, rfl⟩))) | (refine nw_f hS ?_; intro b w1 hS) | refine as_i hS ?_ | refine as_i (hS.subs (List.nil_sublist _) sb9) ?_ | refine as_i (hS.subs (List.Sublist.refl _) sb9) ?_ | refine bar_f hS ?_ | refine ld_f hS 0 rfl rfl ?_ | refine ldA_f hS 0 rfl rfl ?_ | ((first | refine stN_f hS 0 rfl (lb9 rfl) rfl rfl ?_ | refine stM_f hS 0 rfl (lb9 rfl) rfl ?_); (conv => whnf); intro w1 hS) | (refine dr9 hS ?_; intro w1 hS) | refine br_t (by assumption) ?_ | refine br_f (by assumption) ?_)
  refine fc_m (fixed8_c bd bq S s L hQ hs W _ hS.ownF) ?_
  rintro v w1 ⟨rfl, L', hQ', hS'⟩
  replace hS := hS.callW hS'
  have hln := fixedR_len s W
  unfold numW aftW
  generalize fixedR s (W : Int) = z at *
  obtain ⟨t, s1⟩ := z
  simp only at hln hQ' hS ⊢
  have hz := strY_size t
  repeat ((conv => whnf); first | (apply q_i; focus (intro w1 hS; (conv => whnf); first | exact ⟨rfl, rfl⟩ | ((first | refine ld_f hS 0 rfl rfl ?_ | refine ldA_f hS 0 rfl rfl ?_); (conv => whnf); exact ⟨rfl, rfl⟩))) | (refine nw_f hS ?_; intro b w1 hS) | refine as_i hS ?_ | refine as_i (hS.subs (List.nil_sublist _) sb9) ?_ | refine as_i (hS.subs (List.Sublist.refl _) sb9) ?_ | refine bar_f hS ?_ | refine ld_f hS 0 rfl rfl ?_ | refine ldA_f hS 0 rfl rfl ?_ | ((first | refine stN_f hS 0 rfl (lb9 rfl) rfl rfl ?_ | refine stM_f hS 0 rfl (lb9 rfl) rfl ?_); (conv => whnf); intro w1 hS) | (refine dr9 hS ?_; intro w1 hS) | refine br_t (by assumption) ?_ | refine br_f (by assumption) ?_)
  refine loop_i TB_ok (fun i : Nat => [(7, .int .i64 i), (6, .int .u32 (numF 0 (t.take i)))]) (fun i w' => i ≤ t.length ∧ Sf _ w w' (L' ++ []) []) (fun i => t.length - i) 0 rfl ⟨Nat.zero_le _, hS⟩ ?_
  rintro i us w2 ⟨hi, hS⟩
  repeat ((conv => whnf); first | (apply q_i; focus (intro w1 hS; (conv => whnf); first | exact ⟨rfl, rfl⟩ | ((first | refine ld_f hS 0 rfl rfl ?_ | refine ldA_f hS 0 rfl rfl ?_); (conv => whnf); exact ⟨rfl, rfl⟩))) | (refine nw_f hS ?_; intro b w1 hS) | refine as_i hS ?_ | refine as_i (hS.subs (List.nil_sublist _) sb9) ?_ | refine as_i (hS.subs (List.Sublist.refl _) sb9) ?_ | refine bar_f hS ?_ | refine ld_f hS 0 rfl rfl ?_ | refine ldA_f hS 0 rfl rfl ?_ | ((first | refine stN_f hS 0 rfl (lb9 rfl) rfl rfl ?_ | refine stM_f hS 0 rfl (lb9 rfl) rfl ?_); (conv => whnf); intro w1 hS) | (refine dr9 hS ?_; intro w1 hS) | refine br_t (by assumption) ?_ | refine br_f (by assumption) ?_)
  (conv => whnf)
  refine br_i (fun hb => ?_) (fun hb => ?_)
  · have hlt : i < t.length := by have := of_decide_eq_true hb; omega
    have hby : byteAt (strY t) i = (t[i].toNat : Int) := byteAt_strY hlt
    have hc := t[i].toNat_lt
    have hnb := numF_bound (t.take i) 0 (by decide)
    have hpw : (256 : Int) ^ (t.take i).length ≤ 16777216 := by
      have hl : (t.take i).length ≤ 3 := by rw [List.length_take]; omega
      rcases (show (t.take i).length = 0 ∨ (t.take i).length = 1 ∨ (t.take i).length = 2 ∨ (t.take i).length = 3 by omega) with h | h | h | h <;> rw [h] <;> decide
    have hsn : numF 0 (t.take (i + 1)) = numF 0 (t.take i) * 256 + t[i].toNat := by
      rw [List.take_succ_eq_append_getElem hlt]
      unfold numF
      rw [List.foldl_append]
      rfl
    repeat ((conv => whnf); first | (apply q_i; focus (intro w1 hS; (conv => whnf); first | exact ⟨rfl, rfl⟩ | ((first | refine ld_f hS 0 rfl rfl ?_ | refine ldA_f hS 0 rfl rfl ?_); (conv => whnf); exact ⟨rfl, rfl⟩) | ((refine .mk ⟨by omega, by omega⟩ ?_); (conv => whnf); exact ⟨rfl, rfl⟩))) | (refine nw_f hS ?_; intro b w1 hS) | refine as_i hS ?_ | refine as_i (hS.subs (List.nil_sublist _) sb9) ?_ | refine as_i (hS.subs (List.Sublist.refl _) sb9) ?_ | refine bar_f hS ?_ | refine ld_f hS 0 rfl rfl ?_ | refine ldA_f hS 0 rfl rfl ?_ | ((first | refine stN_f hS 0 rfl (lb9 rfl) rfl rfl ?_ | refine stM_f hS 0 rfl (lb9 rfl) rfl ?_); (conv => whnf); intro w1 hS) | refine .mk ⟨by omega, by omega⟩ ?_ | (refine dr9 hS ?_; intro w1 hS) | refine br_t (by assumption) ?_ | refine br_f (by assumption) ?_)
    refine ⟨rfl, i + 1, ?_, ⟨by omega, hS⟩, by omega⟩
    generalize numF 0 (t.take i) = y at *
    have hy : y < 16777216 := by omega
    have e1 : IntKind.u32.wrap (IntKind.u32.wrap (y * 256) + IntKind.u32.wrap (byteAt (strY t) i)) = y * 256 + t[i].toNat := by
      rw [hby, wrap_u32 (x := y * 256) (by omega) (by omega), wrap_u32 (x := (t[i].toNat : Int)) (by omega) (by omega), wrap_u32 (by omega) (by omega)]
    rw [hsn, wi hlt (by omega), ← e1]
    rfl
  · have hge : i = t.length := by have := of_decide_eq_false hb; omega
    rw [hge, List.take_length]
    repeat ((conv => whnf); first | (apply q_i; focus (intro w1 hS; (conv => whnf); first | exact ⟨rfl, rfl⟩ | ((first | refine ld_f hS 0 rfl rfl ?_ | refine ldA_f hS 0 rfl rfl ?_); (conv => whnf); exact ⟨rfl, rfl⟩))) | (refine nw_f hS ?_; intro b w1 hS) | refine as_i hS ?_ | refine as_i (hS.subs (List.nil_sublist _) sb9) ?_ | refine as_i (hS.subs (List.Sublist.refl _) sb9) ?_ | refine bar_f hS ?_ | refine ld_f hS 0 rfl rfl ?_ | refine ldA_f hS 0 rfl rfl ?_ | ((first | refine stN_f hS 0 rfl (lb9 rfl) rfl rfl ?_ | refine stM_f hS 0 rfl (lb9 rfl) rfl ?_); (conv => whnf); intro w1 hS) | (refine dr9 hS ?_; intro w1 hS) | refine br_t (by assumption) ?_ | refine br_f (by assumption) ?_)
    exact ⟨rfl, L', hQ', by simpa using hS.st⟩
theorem text8_c (bd bq : Nat) (S : List UInt8) (s : RS) (L : LM) (hQ : Q8 bd bq S s L) (hs : S.length ≤ 4611686018427387904) (w : World) (hS : St (keys L) w w L) :
    Fc Tryz.prog 56 [.pointer (some ⟨bd, 0, none⟩)] w fun v w' => v = .string (strY (pthR s).2) ∧ ∃ L', Q8 bd bq S (pthR s).1 L' ∧ St (keys L) w w' L' := by
  refine fc_i TB_ok Tryz.func56 rfl (by kernel_rfl) ?_
  have hS : Sf (keys L) w w (L ++ []) [] := ⟨by simpa using hS⟩
  repeat ((conv => whnf); first | (apply q_i; focus (intro w1 hS; (conv => whnf); first | exact ⟨rfl, rfl⟩ | ((first | refine ld_f hS 0 rfl rfl ?_ | refine ldA_f hS 0 rfl rfl ?_); (conv => whnf); exact ⟨rfl, rfl⟩))) | (refine nw_f hS ?_; intro b w1 hS) | refine as_i hS ?_ | refine as_i (hS.subs (List.nil_sublist _) sb9) ?_ | refine as_i (hS.subs (List.Sublist.refl _) sb9) ?_ | refine bar_f hS ?_ | refine ld_f hS 0 rfl rfl ?_ | refine ldA_f hS 0 rfl rfl ?_ | ((first | refine stN_f hS 0 rfl (lb9 rfl) rfl rfl ?_ | refine stM_f hS 0 rfl (lb9 rfl) rfl ?_); (conv => whnf); intro w1 hS) | (refine dr9 hS ?_; intro w1 hS) | refine br_t (by assumption) ?_ | refine br_f (by assumption) ?_)
  refine fc_m (num8_c bd bq S s L hQ hs 1 (by decide) _ hS.ownF) ?_
  rintro v w1 ⟨rfl, L1, hQ1, hS'⟩
  replace hS := hS.callW hS'
  have hn := numW_lt 1 s
  have hw : IntKind.i64.wrap (numW 1 s) = numW 1 s := wrap_i64 (by omega) (by have := hn.2; omega)
  have hfx := fun w' => fixed8_c bd bq S (aftW 1 s) L1 hQ1 hs (numW 1 s) w'
  rw [← hw] at hfx
  repeat ((conv => whnf); first | (apply q_i; focus (intro w1 hS; (conv => whnf); first | exact ⟨rfl, rfl⟩ | ((first | refine ld_f hS 0 rfl rfl ?_ | refine ldA_f hS 0 rfl rfl ?_); (conv => whnf); exact ⟨rfl, rfl⟩))) | (refine nw_f hS ?_; intro b w1 hS) | refine as_i hS ?_ | refine as_i (hS.subs (List.nil_sublist _) sb9) ?_ | refine as_i (hS.subs (List.Sublist.refl _) sb9) ?_ | refine bar_f hS ?_ | refine ld_f hS 0 rfl rfl ?_ | refine ldA_f hS 0 rfl rfl ?_ | ((first | refine stN_f hS 0 rfl (lb9 rfl) rfl rfl ?_ | refine stM_f hS 0 rfl (lb9 rfl) rfl ?_); (conv => whnf); intro w1 hS) | (refine dr9 hS ?_; intro w1 hS) | refine br_t (by assumption) ?_ | refine br_f (by assumption) ?_)
  (conv => whnf)
  refine fc_m (hfx _ hS.ownF) ?_
  rintro v w2 ⟨rfl, L2, hQ2, hS'⟩
  replace hS := hS.callW hS'
  rw [hw] at hQ2
  have hp : pthR s = ((fixedR (aftW 1 s) (numW 1 s)).2, (fixedR (aftW 1 s) (numW 1 s)).1) := rfl
  rw [hp]
  repeat ((conv => whnf); first | (apply q_i; focus (intro w1 hS; (conv => whnf); first | exact ⟨rfl, rfl⟩ | ((first | refine ld_f hS 0 rfl rfl ?_ | refine ldA_f hS 0 rfl rfl ?_); (conv => whnf); exact ⟨rfl, rfl⟩))) | (refine nw_f hS ?_; intro b w1 hS) | refine as_i hS ?_ | refine as_i (hS.subs (List.nil_sublist _) sb9) ?_ | refine as_i (hS.subs (List.Sublist.refl _) sb9) ?_ | refine bar_f hS ?_ | refine ld_f hS 0 rfl rfl ?_ | refine ldA_f hS 0 rfl rfl ?_ | ((first | refine stN_f hS 0 rfl (lb9 rfl) rfl rfl ?_ | refine stM_f hS 0 rfl (lb9 rfl) rfl ?_); (conv => whnf); intro w1 hS) | (refine dr9 hS ?_; intro w1 hS) | refine br_t (by assumption) ?_ | refine br_f (by assumption) ?_)
  exact ⟨by rw [hw], L2, hQ2, by simpa using hS.st⟩
theorem bit18r {b : Int} {i : Nat} (h0 : 0 ≤ b) (h1 : b < 256) (hi : i < 8) : ((bShr .u32 b (i : Int)).tmod 2 == 1) = bitB b i := by
  have hp := pow8 (show i ≤ 8 by omega)
  have hd : 0 ≤ b / 2 ^ i := Int.ediv_nonneg h0 (by omega)
  have e : bShr .u32 b (i : Int) = b / 2 ^ i := by
    unfold bShr
    have hm : min ((i : Nat) : Int).toNat IntKind.u32.bits = i := by
      have : IntKind.u32.bits = 32 := rfl
      rw [this, Int.toNat_natCast]
      omega
    rw [hm, Int.fdiv_eq_ediv_of_nonneg _ (by omega)]
  rw [e, Int.tmod_eq_emod_of_nonneg hd]
  rfl
theorem vector8_c (bd bq : Nat) (S : List UInt8) (s : RS) (L : LM) (hQ : Q8 bd bq S s L) (hs : S.length ≤ 4611686018427387904) (w : World) (hS : St (keys L) w w L) :
    Fc Tryz.prog 57 [.pointer (some ⟨bd, 0, none⟩)] w fun v w' => v = vecV (vecR s).2 ∧ ∃ L', Q8 bd bq S (vecR s).1 L' ∧ St (keys L) w w' L' := by
  have hmk := numW_lt 1 s
  have hm1 : numW 1 s < 256 := by have := hmk.2; omega
  have hv : vecR s = tk2 (numW 1 s) (aftW 1 s) 8 := rfl
  rw [hv]
  have hn1 := fun w' => num8_c bd bq S s L hQ hs 1 (by decide) w'
  generalize numW 1 s = mk at *
  generalize aftW 1 s = s1 at *
  refine fc_i TB_ok Tryz.func57 rfl (by kernel_rfl) ?_
  have hS : Sf (keys L) w w (L ++ []) [] := ⟨by simpa using hS⟩
  repeat ((conv => whnf); first | (apply q_i; focus (intro w1 hS; (conv => whnf); first | exact ⟨rfl, rfl⟩ | ((first | refine ld_f hS 0 rfl rfl ?_ | refine ld_f hS 1 rfl rfl ?_ | refine ldA_f hS 0 rfl rfl ?_ | refine ldA_f hS 1 rfl rfl ?_); (conv => whnf); exact ⟨rfl, rfl⟩))) | (refine nw_f hS ?_; intro b w1 hS) | refine as_i hS ?_ | refine as_i (hS.subs (List.nil_sublist _) sb9) ?_ | refine as_i (hS.subs (List.Sublist.refl _) sb9) ?_ | refine bar_f hS ?_ | refine ld_f hS 0 rfl rfl ?_ | refine ld_f hS 1 rfl rfl ?_ | refine ldA_f hS 0 rfl rfl ?_ | refine ldA_f hS 1 rfl rfl ?_ | ((first | refine stN_f hS 0 rfl (lb9 rfl) rfl rfl ?_ | refine stN_f hS 1 rfl (lb9 rfl) rfl rfl ?_ | refine stM_f hS 0 rfl (lb9 rfl) rfl ?_ | refine stM_f hS 1 rfl (lb9 rfl) rfl ?_); (conv => whnf); intro w1 hS) | (refine dr9 hS ?_; intro w1 hS) | refine br_t (by assumption) ?_ | refine br_f (by assumption) ?_)
  refine fc_m (hn1 _ hS.ownF) ?_
  rintro v w1 ⟨rfl, L1, hQ1, hS'⟩
  replace hS := hS.callW hS'
  repeat ((conv => whnf); first | (apply q_i; focus (intro w1 hS; (conv => whnf); first | exact ⟨rfl, rfl⟩ | ((first | refine ld_f hS 0 rfl rfl ?_ | refine ld_f hS 1 rfl rfl ?_ | refine ldA_f hS 0 rfl rfl ?_ | refine ldA_f hS 1 rfl rfl ?_); (conv => whnf); exact ⟨rfl, rfl⟩))) | (refine nw_f hS ?_; intro b w1 hS) | refine as_i hS ?_ | refine as_i (hS.subs (List.nil_sublist _) sb9) ?_ | refine as_i (hS.subs (List.Sublist.refl _) sb9) ?_ | refine bar_f hS ?_ | refine ld_f hS 0 rfl rfl ?_ | refine ld_f hS 1 rfl rfl ?_ | refine ldA_f hS 0 rfl rfl ?_ | refine ldA_f hS 1 rfl rfl ?_ | ((first | refine stN_f hS 0 rfl (lb9 rfl) rfl rfl ?_ | refine stN_f hS 1 rfl (lb9 rfl) rfl rfl ?_ | refine stM_f hS 0 rfl (lb9 rfl) rfl ?_ | refine stM_f hS 1 rfl (lb9 rfl) rfl ?_); (conv => whnf); intro w1 hS) | (refine dr9 hS ?_; intro w1 hS) | refine br_t (by assumption) ?_ | refine br_f (by assumption) ?_)
  replace hS : Sf _ w _ (L1 ++ []) [(_, .cells (vecF zeroF).toArray 37 (0, 0)), _] := hS
  refine loop_i TB_ok (fun i : Nat => [(5, .int .i64 i)]) (fun i w' => i ≤ 8 ∧ ∃ L', Q8 bd bq S (tk2 mk s1 i).1 L' ∧ Sf _ w w' (L' ++ []) [(_, .cells (vecF (tk2 mk s1 i).2).toArray 37 (0, 0)), _]) (fun i => 8 - i) 0 rfl ⟨Nat.zero_le _, L1, hQ1, hS⟩ ?_
  rintro i us w2 ⟨hi, L', hQ', hS⟩
  (conv => whnf)
  refine br_i (fun hb => ?_) (fun hb => ?_)
  · have hlt : i < 8 := by have := of_decide_eq_true hb; omega
    have hbit := bit18r hmk.1 hm1 hlt
    repeat ((conv => whnf); first | (apply q_i; focus (intro w1 hS; (conv => whnf); first | exact ⟨rfl, rfl⟩ | ((first | refine ld_f hS 0 rfl rfl ?_ | refine ld_f hS 1 rfl rfl ?_ | refine ldA_f hS 0 rfl rfl ?_ | refine ldA_f hS 1 rfl rfl ?_); (conv => whnf); exact ⟨rfl, rfl⟩) | ((refine .mk (by decide) ?_); (conv => whnf); exact ⟨rfl, rfl⟩) | ((refine .mk (by show (0 : Int) ≤ ((i : Nat) : Int); omega) ?_); (conv => whnf); exact ⟨rfl, rfl⟩))) | (refine nw_f hS ?_; intro b w1 hS) | refine as_i hS ?_ | refine as_i (hS.subs (List.nil_sublist _) sb9) ?_ | refine as_i (hS.subs (List.Sublist.refl _) sb9) ?_ | refine bar_f hS ?_ | refine ld_f hS 0 rfl rfl ?_ | refine ld_f hS 1 rfl rfl ?_ | refine ldA_f hS 0 rfl rfl ?_ | refine ldA_f hS 1 rfl rfl ?_ | ((first | refine stN_f hS 0 rfl (lb9 rfl) rfl rfl ?_ | refine stN_f hS 1 rfl (lb9 rfl) rfl rfl ?_ | refine stM_f hS 0 rfl (lb9 rfl) rfl ?_ | refine stM_f hS 1 rfl (lb9 rfl) rfl ?_); (conv => whnf); intro w1 hS) | refine .mk (by decide) ?_ | (refine .mk (by show (0 : Int) ≤ ((i : Nat) : Int); omega) ?_) | (refine dr9 hS ?_; intro w1 hS) | refine br_t (by assumption) ?_ | refine br_f (by assumption) ?_)
    (conv => whnf)
    refine br_i (fun h1 => ?_) (fun h1 => ?_)
    · rw [hbit] at h1
      repeat ((conv => whnf); first | (apply q_i; focus (intro w1 hS; (conv => whnf); first | exact ⟨rfl, rfl⟩ | ((first | refine ld_f hS 0 rfl rfl ?_ | refine ld_f hS 1 rfl rfl ?_ | refine ldA_f hS 0 rfl rfl ?_ | refine ldA_f hS 1 rfl rfl ?_); (conv => whnf); exact ⟨rfl, rfl⟩))) | (refine nw_f hS ?_; intro b w1 hS) | refine as_i hS ?_ | refine as_i (hS.subs (List.nil_sublist _) sb9) ?_ | refine as_i (hS.subs (List.Sublist.refl _) sb9) ?_ | refine bar_f hS ?_ | refine ld_f hS 0 rfl rfl ?_ | refine ld_f hS 1 rfl rfl ?_ | refine ldA_f hS 0 rfl rfl ?_ | refine ldA_f hS 1 rfl rfl ?_ | ((first | refine stN_f hS 0 rfl (lb9 rfl) rfl rfl ?_ | refine stN_f hS 1 rfl (lb9 rfl) rfl rfl ?_ | refine stM_f hS 0 rfl (lb9 rfl) rfl ?_ | refine stM_f hS 1 rfl (lb9 rfl) rfl ?_); (conv => whnf); intro w1 hS) | (refine dr9 hS ?_; intro w1 hS) | refine br_t (by assumption) ?_ | refine br_f (by assumption) ?_)
      (conv => whnf)
      refine fc_m (num8_c bd bq S _ L' hQ' hs 2 (by decide) _ hS.ownF) ?_
      rintro v w7 ⟨rfl, L2, hQ2, hS'⟩
      replace hS := hS.callW hS'
      repeat ((conv => whnf); first | (apply q_i; focus (intro w1 hS; (conv => whnf); first | exact ⟨rfl, rfl⟩ | ((first | refine ld_f hS 0 rfl rfl ?_ | refine ld_f hS 1 rfl rfl ?_ | refine ldA_f hS 0 rfl rfl ?_ | refine ldA_f hS 1 rfl rfl ?_); (conv => whnf); exact ⟨rfl, rfl⟩) | ((refine .mk ⟨by omega, by omega⟩ ?_); (conv => whnf); exact ⟨rfl, rfl⟩) | ((refine stv_f hS 0 rfl hlt (by show 0 + i * 1 = i; omega) ?_; (conv => whnf); intro w1 hS); (conv => whnf); exact ⟨rfl, rfl⟩))) | (refine nw_f hS ?_; intro b w1 hS) | refine as_i hS ?_ | refine as_i (hS.subs (List.nil_sublist _) sb9) ?_ | refine as_i (hS.subs (List.Sublist.refl _) sb9) ?_ | refine bar_f hS ?_ | refine ld_f hS 0 rfl rfl ?_ | refine ld_f hS 1 rfl rfl ?_ | refine ldA_f hS 0 rfl rfl ?_ | refine ldA_f hS 1 rfl rfl ?_ | ((first | refine stN_f hS 0 rfl (lb9 rfl) rfl rfl ?_ | refine stN_f hS 1 rfl (lb9 rfl) rfl rfl ?_ | refine stM_f hS 0 rfl (lb9 rfl) rfl ?_ | refine stM_f hS 1 rfl (lb9 rfl) rfl ?_); (conv => whnf); intro w1 hS) | refine .mk ⟨by omega, by omega⟩ ?_ | (refine stv_f hS 0 rfl hlt (by show 0 + i * 1 = i; omega) ?_; (conv => whnf); intro w1 hS) | (refine dr9 hS ?_; intro w1 hS) | refine br_t (by assumption) ?_ | refine br_f (by assumption) ?_)
      refine ⟨rfl, i + 1, ?_, ⟨by omega, L2, ?_, ?_⟩, by omega⟩
      · rw [wi hlt (by omega)]
        rfl
      · rw [tk2, h1, if_pos rfl]
        exact hQ2
      · rw [tk2, h1, if_pos rfl]
        exact hS
    · rw [hbit] at h1
      repeat ((conv => whnf); first | (apply q_i; focus (intro w1 hS; (conv => whnf); first | exact ⟨rfl, rfl⟩ | ((first | refine ld_f hS 0 rfl rfl ?_ | refine ld_f hS 1 rfl rfl ?_ | refine ldA_f hS 0 rfl rfl ?_ | refine ldA_f hS 1 rfl rfl ?_); (conv => whnf); exact ⟨rfl, rfl⟩))) | (refine nw_f hS ?_; intro b w1 hS) | refine as_i hS ?_ | refine as_i (hS.subs (List.nil_sublist _) sb9) ?_ | refine as_i (hS.subs (List.Sublist.refl _) sb9) ?_ | refine bar_f hS ?_ | refine ld_f hS 0 rfl rfl ?_ | refine ld_f hS 1 rfl rfl ?_ | refine ldA_f hS 0 rfl rfl ?_ | refine ldA_f hS 1 rfl rfl ?_ | ((first | refine stN_f hS 0 rfl (lb9 rfl) rfl rfl ?_ | refine stN_f hS 1 rfl (lb9 rfl) rfl rfl ?_ | refine stM_f hS 0 rfl (lb9 rfl) rfl ?_ | refine stM_f hS 1 rfl (lb9 rfl) rfl ?_); (conv => whnf); intro w1 hS) | (refine dr9 hS ?_; intro w1 hS) | refine br_t (by assumption) ?_ | refine br_f (by assumption) ?_)
      refine ⟨rfl, i + 1, ?_, ⟨by omega, L', ?_, ?_⟩, by omega⟩
      · rw [wi hlt (by omega)]
        rfl
      · rw [tk2, h1, if_neg (by decide)]
        exact hQ'
      · rw [tk2, h1, if_neg (by decide)]
        exact hS
  · have hge : i = 8 := by have := of_decide_eq_false hb; omega
    subst hge
    repeat ((conv => whnf); first | (apply q_i; focus (intro w1 hS; (conv => whnf); first | exact ⟨rfl, rfl⟩ | ((first | refine ld_f hS 0 rfl rfl ?_ | refine ld_f hS 1 rfl rfl ?_ | refine ldA_f hS 0 rfl rfl ?_ | refine ldA_f hS 1 rfl rfl ?_); (conv => whnf); exact ⟨rfl, rfl⟩) | ((refine ldN_f hS 0 rfl (lb9 rfl) ?_); (conv => whnf); exact ⟨rfl, rfl⟩))) | (refine nw_f hS ?_; intro b w1 hS) | refine as_i hS ?_ | refine as_i (hS.subs (List.nil_sublist _) sb9) ?_ | refine as_i (hS.subs (List.Sublist.refl _) sb9) ?_ | refine bar_f hS ?_ | refine ld_f hS 0 rfl rfl ?_ | refine ld_f hS 1 rfl rfl ?_ | refine ldA_f hS 0 rfl rfl ?_ | refine ldA_f hS 1 rfl rfl ?_ | ((first | refine stN_f hS 0 rfl (lb9 rfl) rfl rfl ?_ | refine stN_f hS 1 rfl (lb9 rfl) rfl rfl ?_ | refine stM_f hS 0 rfl (lb9 rfl) rfl ?_ | refine stM_f hS 1 rfl (lb9 rfl) rfl ?_); (conv => whnf); intro w1 hS) | refine ldN_f hS 0 rfl (lb9 rfl) ?_ | (refine dr9 hS ?_; intro w1 hS) | refine br_t (by assumption) ?_ | refine br_f (by assumption) ?_)
    exact ⟨rfl, L', hQ', by simpa using hS.fr (List.Sublist.refl _)⟩
end Go.RV

set_option maxRecDepth 20000
set_option linter.unusedVariables false
set_option linter.unusedSimpArgs false
namespace Go.RV
open Go Go.Proofs Go.RowKit

theorem takeV_err0 {s : RS} (h : s.e ≠ 0) : takeV (tellS s) = ((false, 0, []), s.e) := by
  unfold takeV
  rw [if_pos (by rw [tellR_err h]; exact h), tellR_err h]
theorem vaR_err0 {s : RS} (h : s.e ≠ 0) : vaR s = (⟨[], s.e⟩, ⟨false, 0, []⟩) := by
  unfold vaR
  rw [takeV_err0 h]
  simp [h]
theorem value8_c (bd bq : Nat) (S : List UInt8) (s : RS) (L : LM) (hQ : Q8 bd bq S s L) (hs : S.length ≤ 4611686018427387904) (w : World) (hS : St (keys L) w w L) :
    Fc Tryz.prog 58 [.pointer (some ⟨bd, 0, none⟩)] w fun v w' => ∃ A c Lv, v = vaV (vaR s).2 A c ∧ (∀ w'', Holds w'' Lv → Rd w'' A (flat encU (vaR s).2.ks)) ∧ ∃ L', Q8 bd bq S (vaR s).1 L' ∧ St (keys L) w w' (L' ++ Lv) := by
  obtain ⟨q, Lq, hQq, hq, rfl⟩ := hQ.out
  obtain ⟨M0, hM0⟩ : ∃ M, M = keys ((bd, qr8O bq s.e) :: Lq) := ⟨_, rfl⟩
  rw [← hM0] at hS ⊢
  by_cases he : s.e = 0
  · have g1 : (s.e != 0) = false := by simp [he]
    have hqs := hq he
    subst hqs
    have htk := fun w' h => rtakeV_c bq S q Lq hQq hs w' h
    have e1 : (vaR q).1 = if (takeV (tellS q)).2 ≠ 0 then ⟨[], (takeV (tellS q)).2⟩ else valR (tellS q) := rfl
    have e2 : (vaR q).2 = ⟨(takeV (tellS q)).1.1, (takeV (tellS q)).1.2.1, (takeV (tellS q)).1.2.2⟩ := rfl
    have hok := @takeV_ok (tellS q)
    have e3 : (vaR q).1.e = (takeV (tellS q)).2 := by
      rw [e1]
      split
      · rfl
      · rename_i h
        have h' : (takeV (tellS q)).2 = 0 := by omega
        rw [(hok h').1, h']
    rw [e2]
    generalize takeV (tellS q) = z at *
    obtain ⟨⟨zd, zn, zk⟩, ze⟩ := z
    simp only at htk hok e1 e3 ⊢
    refine fc_i TB_ok Tryz.func58 rfl (by kernel_rfl) ?_
    have hS : Sf M0 w w (Lq ++ []) [(bd, .cells (qr8L bq q.e).toArray 88 (0, 0))] := ⟨hS.perm (pc fun u => by simp only [List.count_append, List.count_cons, List.count_nil, qr8O]; omega)⟩
    repeat ((conv => whnf); first | (apply q_i; focus (intro w1 hS; (conv => whnf); first | exact ⟨rfl, rfl⟩ | ((first | refine ld_f hS 0 rfl rfl ?_ | refine ld_f hS 1 rfl rfl ?_ | refine ldA_f hS 0 rfl rfl ?_ | refine ldA_f hS 1 rfl rfl ?_); (conv => whnf); exact ⟨rfl, rfl⟩))) | (refine nw_f hS ?_; intro b w1 hS) | refine as_i hS ?_ | refine as_i (hS.subs (List.nil_sublist _) sb9) ?_ | refine as_i (hS.subs (List.Sublist.refl _) sb9) ?_ | refine bar_f hS ?_ | refine ld_f hS 0 rfl rfl ?_ | refine ld_f hS 1 rfl rfl ?_ | refine ldA_f hS 0 rfl rfl ?_ | refine ldA_f hS 1 rfl rfl ?_ | ((first | refine stN_f hS 0 rfl (lb9 rfl) rfl rfl ?_ | refine stN_f hS 1 rfl (lb9 rfl) rfl rfl ?_ | refine stM_f hS 0 rfl (lb9 rfl) rfl ?_ | refine stM_f hS 1 rfl (lb9 rfl) rfl ?_); (conv => whnf); intro w1 hS) | (refine dr9 hS ?_; intro w1 hS) | refine br_t (by assumption) ?_ | refine br_f (by assumption) ?_)
    refine fc_m (htk _ hS.ownF) ?_
    rintro v w1 ⟨A, c, Lv, hv, rfl, L1, hQ1, hS'⟩
    replace hS := hS.callW hS'
    repeat ((conv => whnf); first | (apply q_i; focus (intro w1 hS; (conv => whnf); first | exact ⟨rfl, rfl⟩ | ((first | refine ld_f hS 0 rfl rfl ?_ | refine ld_f hS 1 rfl rfl ?_ | refine ld_f hS 2 rfl rfl ?_ | refine ldA_f hS 0 rfl rfl ?_ | refine ldA_f hS 1 rfl rfl ?_ | refine ldA_f hS 2 rfl rfl ?_); (conv => whnf); exact ⟨rfl, rfl⟩) | ((refine ldN_f hS 0 rfl (lb9 rfl) ?_); (conv => whnf); exact ⟨rfl, rfl⟩) | ((refine ldN_f hS 1 rfl (lb9 rfl) ?_); (conv => whnf); exact ⟨rfl, rfl⟩))) | (refine nw_f hS ?_; intro b w1 hS) | refine as_i hS ?_ | refine as_i (hS.subs (List.nil_sublist _) sb9) ?_ | refine as_i (hS.subs (List.Sublist.refl _) sb9) ?_ | refine bar_f hS ?_ | refine ld_f hS 0 rfl rfl ?_ | refine ld_f hS 1 rfl rfl ?_ | refine ld_f hS 2 rfl rfl ?_ | refine ldA_f hS 0 rfl rfl ?_ | refine ldA_f hS 1 rfl rfl ?_ | refine ldA_f hS 2 rfl rfl ?_ | ((first | refine stN_f hS 0 rfl (lb9 rfl) rfl rfl ?_ | refine stN_f hS 1 rfl (lb9 rfl) rfl rfl ?_ | refine stN_f hS 2 rfl (lb9 rfl) rfl rfl ?_ | refine stM_f hS 0 rfl (lb9 rfl) rfl ?_ | refine stM_f hS 1 rfl (lb9 rfl) rfl ?_ | refine stM_f hS 2 rfl (lb9 rfl) rfl ?_); (conv => whnf); intro w1 hS) | refine ldN_f hS 0 rfl (lb9 rfl) ?_ | refine ldN_f hS 1 rfl (lb9 rfl) ?_ | (refine dr9 hS ?_; intro w1 hS) | refine br_t (by assumption) ?_ | refine br_f (by assumption) ?_)
    replace hS : Sf M0 w _ ((L1 ++ Lv) ++ []) [(bd, qr8O bq ze)] := hS.subs (List.Sublist.refl _) (.cons _ (.cons _ (.refl _)))
    refine ⟨A, c, Lv, rfl, fun w'' hH => hv.rdK hH, (bd, qr8O bq ze) :: L1, ⟨_, L1, hQ1, fun h => ?_, by rw [e3]⟩, hS.st.perm (pc fun u => by simp only [List.count_append, List.count_cons, List.count_nil]; omega)⟩
    rw [e3] at h
    rw [e1, if_neg (by simpa using h)]
  · have g1 : (s.e != 0) = true := by simp [he]
    rw [vaR_err0 he]
    refine fc_i TB_ok Tryz.func58 rfl (by kernel_rfl) ?_
    have hS : Sf M0 w w (Lq ++ []) [(bd, .cells (qr8L bq s.e).toArray 88 (0, 0))] := ⟨hS.perm (pc fun u => by simp only [List.count_append, List.count_cons, List.count_nil, qr8O]; omega)⟩
    repeat ((conv => whnf); first | (apply q_i; focus (intro w1 hS; (conv => whnf); first | exact ⟨rfl, rfl⟩ | ((first | refine ld_f hS 0 rfl rfl ?_ | refine ld_f hS 1 rfl rfl ?_ | refine ldA_f hS 0 rfl rfl ?_ | refine ldA_f hS 1 rfl rfl ?_); (conv => whnf); exact ⟨rfl, rfl⟩) | ((refine ldN_f hS 0 rfl (lb9 rfl) ?_); (conv => whnf); exact ⟨rfl, rfl⟩))) | (refine nw_f hS ?_; intro b w1 hS) | refine as_i hS ?_ | refine as_i (hS.subs (List.nil_sublist _) sb9) ?_ | refine as_i (hS.subs (List.Sublist.refl _) sb9) ?_ | refine bar_f hS ?_ | refine ld_f hS 0 rfl rfl ?_ | refine ld_f hS 1 rfl rfl ?_ | refine ldA_f hS 0 rfl rfl ?_ | refine ldA_f hS 1 rfl rfl ?_ | ((first | refine stN_f hS 0 rfl (lb9 rfl) rfl rfl ?_ | refine stN_f hS 1 rfl (lb9 rfl) rfl rfl ?_ | refine stM_f hS 0 rfl (lb9 rfl) rfl ?_ | refine stM_f hS 1 rfl (lb9 rfl) rfl ?_); (conv => whnf); intro w1 hS) | refine ldN_f hS 0 rfl (lb9 rfl) ?_ | (refine dr9 hS ?_; intro w1 hS) | refine br_t (by assumption) ?_ | refine br_f (by assumption) ?_)
    replace hS : Sf M0 w _ (Lq ++ []) [(bd, qr8O bq s.e)] := hS.subs (List.Sublist.refl _) (.cons _ (.refl _))
    exact ⟨none, 0, [], rfl, fun w'' _ => .inl rfl, (bd, qr8O bq s.e) :: Lq, ⟨q, Lq, hQq, fun h => absurd h he, rfl⟩, hS.st.perm (pc fun u => by simp only [List.count_append, List.count_cons, List.count_nil]; omega)⟩
end Go.RV
