/- Texts of mine, packed for a claim (bundle.py). Conditions: none. -/
import Derived.Test.YtlebdkdjjegpgaaGreatK5x6
set_option maxRecDepth 20000
set_option linter.unusedVariables false
set_option linter.unusedSimpArgs false
namespace Go.RV
open Go Go.Proofs Go.RowKit

def Got8 (bd bq : Nat) (S : List UInt8) (s : RS) (M : List Nat) (w : World) (v : Value) (w' : World) : Prop :=
  ∃ x h ms Lv, v = recV x h ∧ ((oneR s).1.e = 0 → x = (oneR s).2) ∧ (∀ w'', Holds w'' Lv → MemR w'' x h ms) ∧ ∃ L', Q8 bd bq S (oneR s).1 L' ∧ St M w w' (L' ++ Lv)
theorem wr8 (s : RS) : IntKind.u8.wrap (numW 1 s) = numW 1 s := wrap_u8 (numW_lt 1 s).1 (by have := (numW_lt 1 s).2; omega)
theorem wr1 (s : RS) : IntKind.i64.wrap (numW 1 s) = numW 1 s := wrap_i64 (by have := (numW_lt 1 s).1; omega) (by have := (numW_lt 1 s).2; omega)
theorem wr2 (s : RS) : IntKind.i64.wrap (numW 2 s) = numW 2 s := wrap_i64 (by have := (numW_lt 2 s).1; omega) (by have := (numW_lt 2 s).2; omega)
theorem wr4 (s : RS) : IntKind.i64.wrap (numW 4 s) = numW 4 s := wrap_i64 (by have := (numW_lt 4 s).1; omega) (by have := (numW_lt 4 s).2; omega)
set_option maxHeartbeats 4000000 in
theorem rec8k1_c (bd bq : Nat) (S : List UInt8) (s : RS) (L : LM) (hQ : Q8 bd bq S s L) (hs : S.length ≤ 4611686018427387904) (w : World) (hS : St (keys L) w w L) (hk : numW 1 s = 1) :
    Fc Tryz.prog 32 [.pointer (some ⟨bd, 0, none⟩)] w (Got8 bd bq S s (keys L) w) := by
  have hq8 := wr8 s
  have h1 : oneR s = bodyR (numW 1 s) (aftW 1 s) := rfl
  unfold Got8
  rw [h1, bodyR1 _ hk]
  clear h1
  have hn1 := fun w' => num8_c bd bq S s L hQ hs 1 (by decide) w'
  generalize numW 1 s = k at *
  generalize aftW 1 s = s1 at *
  have g1 : (IntKind.u8.wrap k == 1) = true := by rw [hq8]; rw [hk]; rfl
  have g2 : (IntKind.u8.wrap k == 2) = false := by rw [hq8]; rw [hk]; rfl
  have g3 : (IntKind.u8.wrap k == 3) = false := by rw [hq8]; rw [hk]; rfl
  have g4 : (IntKind.u8.wrap k == 4) = false := by rw [hq8]; rw [hk]; rfl
  have g5 : (IntKind.u8.wrap k == 5) = false := by rw [hq8]; rw [hk]; rfl
  have g6 : (IntKind.u8.wrap k == 6) = false := by rw [hq8]; rw [hk]; rfl
  have g7 : (IntKind.u8.wrap k == 7) = false := by rw [hq8]; rw [hk]; rfl
  have g8 : (IntKind.u8.wrap k == 8) = false := by rw [hq8]; rw [hk]; rfl
  refine fc_i TB_ok Tryz.func32 rfl (by kernel_rfl) ?_
  have hS : Sf (keys L) w w (L ++ []) [] := ⟨by simpa using hS⟩
  clear hQ
  repeat ((conv => whnf); first | (apply q_i; focus (intro w1 hS; (conv => whnf); first | exact ⟨rfl, rfl⟩ | ((first | refine ld_f hS 0 rfl rfl ?_ | refine ldA_f hS 0 rfl rfl ?_); (conv => whnf); exact ⟨rfl, rfl⟩))) | (refine nw_f hS ?_; intro b w1 hS) | refine as_i hS ?_ | refine as_i (hS.subs (List.nil_sublist _) sb9) ?_ | refine as_i (hS.subs (List.Sublist.refl _) sb9) ?_ | refine bar_f hS ?_ | refine ld_f hS 0 rfl rfl ?_ | refine ldA_f hS 0 rfl rfl ?_ | ((first | refine stN_f hS 0 rfl (lb9 rfl) rfl rfl ?_ | refine stM_f hS 0 rfl (lb9 rfl) rfl ?_); (conv => whnf); intro w1 hS) | (refine dr9 hS ?_; intro w1 hS) | refine br_t (by assumption) ?_ | refine br_f (by assumption) ?_)
  refine fc_m (hn1 _ hS.ownF) ?_
  rintro v w1 ⟨rfl, L1, hQ, hS'⟩
  replace hS := hS.callW hS'
  repeat ((conv => whnf); first | (apply q_i; focus (intro w1 hS; (conv => whnf); first | exact ⟨rfl, rfl⟩ | ((first | refine ld_f hS 0 rfl rfl ?_ | refine ld_f hS 1 rfl rfl ?_ | refine ldA_f hS 0 rfl rfl ?_ | refine ldA_f hS 1 rfl rfl ?_); (conv => whnf); exact ⟨rfl, rfl⟩) | ((refine ldN_f hS 0 rfl (lb9 rfl) ?_); (conv => whnf); exact ⟨rfl, rfl⟩) | ((refine ldN_f hS 1 rfl (lb9 rfl) ?_); (conv => whnf); exact ⟨rfl, rfl⟩) | ((refine ldN_f hS 2 rfl (lb9 rfl) ?_); (conv => whnf); exact ⟨rfl, rfl⟩) | ((refine .mk ⟨by omega, by omega⟩ ?_); (conv => whnf); exact ⟨rfl, rfl⟩))) | (refine nw_f hS ?_; intro b w1 hS) | refine as_i hS ?_ | refine as_i (hS.subs (List.nil_sublist _) sb9) ?_ | refine as_i (hS.subs (List.Sublist.refl _) sb9) ?_ | refine bar_f hS ?_ | refine ld_f hS 0 rfl rfl ?_ | refine ld_f hS 1 rfl rfl ?_ | refine ldA_f hS 0 rfl rfl ?_ | refine ldA_f hS 1 rfl rfl ?_ | ((first | refine stN_f hS 0 rfl (lb9 rfl) rfl rfl ?_ | refine stN_f hS 1 rfl (lb9 rfl) rfl rfl ?_ | refine stM_f hS 0 rfl (lb9 rfl) rfl ?_ | refine stM_f hS 1 rfl (lb9 rfl) rfl ?_); (conv => whnf); intro w1 hS) | refine ldN_f hS 0 rfl (lb9 rfl) ?_ | refine ldN_f hS 1 rfl (lb9 rfl) ?_ | refine ldN_f hS 2 rfl (lb9 rfl) ?_ | refine .mk ⟨by omega, by omega⟩ ?_ | (refine dr9 hS ?_; intro w1 hS) | refine br_t (by assumption) ?_ | refine br_f (by assumption) ?_)
  (conv => whnf)
  refine fc_m (num8_c bd bq S _ _ hQ hs 1 (by decide) _ hS.ownF) ?_
  rintro v w3 ⟨rfl, L2, hQ, hS'⟩
  replace hS := hS.callW hS'
  repeat ((conv => whnf); first | (apply q_i; focus (intro w1 hS; (conv => whnf); first | exact ⟨rfl, rfl⟩ | ((first | refine ld_f hS 0 rfl rfl ?_ | refine ld_f hS 1 rfl rfl ?_ | refine ldA_f hS 0 rfl rfl ?_ | refine ldA_f hS 1 rfl rfl ?_); (conv => whnf); exact ⟨rfl, rfl⟩) | ((refine ldN_f hS 0 rfl (lb9 rfl) ?_); (conv => whnf); exact ⟨rfl, rfl⟩) | ((refine ldN_f hS 1 rfl (lb9 rfl) ?_); (conv => whnf); exact ⟨rfl, rfl⟩) | ((refine ldN_f hS 2 rfl (lb9 rfl) ?_); (conv => whnf); exact ⟨rfl, rfl⟩) | ((refine .mk ⟨by omega, by omega⟩ ?_); (conv => whnf); exact ⟨rfl, rfl⟩))) | (refine nw_f hS ?_; intro b w1 hS) | refine as_i hS ?_ | refine as_i (hS.subs (List.nil_sublist _) sb9) ?_ | refine as_i (hS.subs (List.Sublist.refl _) sb9) ?_ | refine bar_f hS ?_ | refine ld_f hS 0 rfl rfl ?_ | refine ld_f hS 1 rfl rfl ?_ | refine ldA_f hS 0 rfl rfl ?_ | refine ldA_f hS 1 rfl rfl ?_ | ((first | refine stN_f hS 0 rfl (lb9 rfl) rfl rfl ?_ | refine stN_f hS 1 rfl (lb9 rfl) rfl rfl ?_ | refine stM_f hS 0 rfl (lb9 rfl) rfl ?_ | refine stM_f hS 1 rfl (lb9 rfl) rfl ?_); (conv => whnf); intro w1 hS) | refine ldN_f hS 0 rfl (lb9 rfl) ?_ | refine ldN_f hS 1 rfl (lb9 rfl) ?_ | refine ldN_f hS 2 rfl (lb9 rfl) ?_ | refine .mk ⟨by omega, by omega⟩ ?_ | (refine dr9 hS ?_; intro w1 hS) | refine br_t (by assumption) ?_ | refine br_f (by assumption) ?_)
  rw [hq8, wr8]
  exact ⟨{ zeroRx k with r := numW 1 s1 }, noHd, [], [], rfl, fun _ => rfl, fun w'' _ => mem_none _ w'' rfl rfl, L2, hQ, by simpa using hS.fr (List.Sublist.refl _)⟩
set_option maxHeartbeats 4000000 in
theorem rec8k2_c (bd bq : Nat) (S : List UInt8) (s : RS) (L : LM) (hQ : Q8 bd bq S s L) (hs : S.length ≤ 4611686018427387904) (w : World) (hS : St (keys L) w w L) (hk : numW 1 s = 2) :
    Fc Tryz.prog 32 [.pointer (some ⟨bd, 0, none⟩)] w (Got8 bd bq S s (keys L) w) := by
  have hq8 := wr8 s
  have h1 : oneR s = bodyR (numW 1 s) (aftW 1 s) := rfl
  unfold Got8
  rw [h1, bodyR2 _ hk]
  clear h1
  have hn1 := fun w' => num8_c bd bq S s L hQ hs 1 (by decide) w'
  generalize numW 1 s = k at *
  generalize aftW 1 s = s1 at *
  have g1 : (IntKind.u8.wrap k == 1) = false := by rw [hq8]; rw [hk]; rfl
  have g2 : (IntKind.u8.wrap k == 2) = true := by rw [hq8]; rw [hk]; rfl
  have g3 : (IntKind.u8.wrap k == 3) = false := by rw [hq8]; rw [hk]; rfl
  have g4 : (IntKind.u8.wrap k == 4) = false := by rw [hq8]; rw [hk]; rfl
  have g5 : (IntKind.u8.wrap k == 5) = false := by rw [hq8]; rw [hk]; rfl
  have g6 : (IntKind.u8.wrap k == 6) = false := by rw [hq8]; rw [hk]; rfl
  have g7 : (IntKind.u8.wrap k == 7) = false := by rw [hq8]; rw [hk]; rfl
  have g8 : (IntKind.u8.wrap k == 8) = false := by rw [hq8]; rw [hk]; rfl
  refine fc_i TB_ok Tryz.func32 rfl (by kernel_rfl) ?_
  have hS : Sf (keys L) w w (L ++ []) [] := ⟨by simpa using hS⟩
  clear hQ
  repeat ((conv => whnf); first | (apply q_i; focus (intro w1 hS; (conv => whnf); first | exact ⟨rfl, rfl⟩ | ((first | refine ld_f hS 0 rfl rfl ?_ | refine ldA_f hS 0 rfl rfl ?_); (conv => whnf); exact ⟨rfl, rfl⟩))) | (refine nw_f hS ?_; intro b w1 hS) | refine as_i hS ?_ | refine as_i (hS.subs (List.nil_sublist _) sb9) ?_ | refine as_i (hS.subs (List.Sublist.refl _) sb9) ?_ | refine bar_f hS ?_ | refine ld_f hS 0 rfl rfl ?_ | refine ldA_f hS 0 rfl rfl ?_ | ((first | refine stN_f hS 0 rfl (lb9 rfl) rfl rfl ?_ | refine stM_f hS 0 rfl (lb9 rfl) rfl ?_); (conv => whnf); intro w1 hS) | (refine dr9 hS ?_; intro w1 hS) | refine br_t (by assumption) ?_ | refine br_f (by assumption) ?_)
  refine fc_m (hn1 _ hS.ownF) ?_
  rintro v w1 ⟨rfl, L1, hQ, hS'⟩
  replace hS := hS.callW hS'
  repeat ((conv => whnf); first | (apply q_i; focus (intro w1 hS; (conv => whnf); first | exact ⟨rfl, rfl⟩ | ((first | refine ld_f hS 0 rfl rfl ?_ | refine ld_f hS 1 rfl rfl ?_ | refine ldA_f hS 0 rfl rfl ?_ | refine ldA_f hS 1 rfl rfl ?_); (conv => whnf); exact ⟨rfl, rfl⟩) | ((refine ldN_f hS 0 rfl (lb9 rfl) ?_); (conv => whnf); exact ⟨rfl, rfl⟩) | ((refine ldN_f hS 1 rfl (lb9 rfl) ?_); (conv => whnf); exact ⟨rfl, rfl⟩) | ((refine ldN_f hS 2 rfl (lb9 rfl) ?_); (conv => whnf); exact ⟨rfl, rfl⟩) | ((refine .mk ⟨by omega, by omega⟩ ?_); (conv => whnf); exact ⟨rfl, rfl⟩))) | (refine nw_f hS ?_; intro b w1 hS) | refine as_i hS ?_ | refine as_i (hS.subs (List.nil_sublist _) sb9) ?_ | refine as_i (hS.subs (List.Sublist.refl _) sb9) ?_ | refine bar_f hS ?_ | refine ld_f hS 0 rfl rfl ?_ | refine ld_f hS 1 rfl rfl ?_ | refine ldA_f hS 0 rfl rfl ?_ | refine ldA_f hS 1 rfl rfl ?_ | ((first | refine stN_f hS 0 rfl (lb9 rfl) rfl rfl ?_ | refine stN_f hS 1 rfl (lb9 rfl) rfl rfl ?_ | refine stM_f hS 0 rfl (lb9 rfl) rfl ?_ | refine stM_f hS 1 rfl (lb9 rfl) rfl ?_); (conv => whnf); intro w1 hS) | refine ldN_f hS 0 rfl (lb9 rfl) ?_ | refine ldN_f hS 1 rfl (lb9 rfl) ?_ | refine ldN_f hS 2 rfl (lb9 rfl) ?_ | refine .mk ⟨by omega, by omega⟩ ?_ | (refine dr9 hS ?_; intro w1 hS) | refine br_t (by assumption) ?_ | refine br_f (by assumption) ?_)
  (conv => whnf)
  refine fc_m (num8_c bd bq S _ _ hQ hs 4 (by decide) _ hS.ownF) ?_
  rintro v w3 ⟨rfl, L2, hQ, hS'⟩
  replace hS := hS.callW hS'
  repeat ((conv => whnf); first | (apply q_i; focus (intro w1 hS; (conv => whnf); first | exact ⟨rfl, rfl⟩ | ((first | refine ld_f hS 0 rfl rfl ?_ | refine ld_f hS 1 rfl rfl ?_ | refine ldA_f hS 0 rfl rfl ?_ | refine ldA_f hS 1 rfl rfl ?_); (conv => whnf); exact ⟨rfl, rfl⟩) | ((refine ldN_f hS 0 rfl (lb9 rfl) ?_); (conv => whnf); exact ⟨rfl, rfl⟩) | ((refine ldN_f hS 1 rfl (lb9 rfl) ?_); (conv => whnf); exact ⟨rfl, rfl⟩) | ((refine ldN_f hS 2 rfl (lb9 rfl) ?_); (conv => whnf); exact ⟨rfl, rfl⟩) | ((refine .mk ⟨by omega, by omega⟩ ?_); (conv => whnf); exact ⟨rfl, rfl⟩))) | (refine nw_f hS ?_; intro b w1 hS) | refine as_i hS ?_ | refine as_i (hS.subs (List.nil_sublist _) sb9) ?_ | refine as_i (hS.subs (List.Sublist.refl _) sb9) ?_ | refine bar_f hS ?_ | refine ld_f hS 0 rfl rfl ?_ | refine ld_f hS 1 rfl rfl ?_ | refine ldA_f hS 0 rfl rfl ?_ | refine ldA_f hS 1 rfl rfl ?_ | ((first | refine stN_f hS 0 rfl (lb9 rfl) rfl rfl ?_ | refine stN_f hS 1 rfl (lb9 rfl) rfl rfl ?_ | refine stM_f hS 0 rfl (lb9 rfl) rfl ?_ | refine stM_f hS 1 rfl (lb9 rfl) rfl ?_); (conv => whnf); intro w1 hS) | refine ldN_f hS 0 rfl (lb9 rfl) ?_ | refine ldN_f hS 1 rfl (lb9 rfl) ?_ | refine ldN_f hS 2 rfl (lb9 rfl) ?_ | refine .mk ⟨by omega, by omega⟩ ?_ | (refine dr9 hS ?_; intro w1 hS) | refine br_t (by assumption) ?_ | refine br_f (by assumption) ?_)
  (conv => whnf)
  refine fc_m (num8_c bd bq S _ _ hQ hs 4 (by decide) _ hS.ownF) ?_
  rintro v w3 ⟨rfl, L2, hQ, hS'⟩
  replace hS := hS.callW hS'
  repeat ((conv => whnf); first | (apply q_i; focus (intro w1 hS; (conv => whnf); first | exact ⟨rfl, rfl⟩ | ((first | refine ld_f hS 0 rfl rfl ?_ | refine ld_f hS 1 rfl rfl ?_ | refine ldA_f hS 0 rfl rfl ?_ | refine ldA_f hS 1 rfl rfl ?_); (conv => whnf); exact ⟨rfl, rfl⟩) | ((refine ldN_f hS 0 rfl (lb9 rfl) ?_); (conv => whnf); exact ⟨rfl, rfl⟩) | ((refine ldN_f hS 1 rfl (lb9 rfl) ?_); (conv => whnf); exact ⟨rfl, rfl⟩) | ((refine ldN_f hS 2 rfl (lb9 rfl) ?_); (conv => whnf); exact ⟨rfl, rfl⟩) | ((refine .mk ⟨by omega, by omega⟩ ?_); (conv => whnf); exact ⟨rfl, rfl⟩))) | (refine nw_f hS ?_; intro b w1 hS) | refine as_i hS ?_ | refine as_i (hS.subs (List.nil_sublist _) sb9) ?_ | refine as_i (hS.subs (List.Sublist.refl _) sb9) ?_ | refine bar_f hS ?_ | refine ld_f hS 0 rfl rfl ?_ | refine ld_f hS 1 rfl rfl ?_ | refine ldA_f hS 0 rfl rfl ?_ | refine ldA_f hS 1 rfl rfl ?_ | ((first | refine stN_f hS 0 rfl (lb9 rfl) rfl rfl ?_ | refine stN_f hS 1 rfl (lb9 rfl) rfl rfl ?_ | refine stM_f hS 0 rfl (lb9 rfl) rfl ?_ | refine stM_f hS 1 rfl (lb9 rfl) rfl ?_); (conv => whnf); intro w1 hS) | refine ldN_f hS 0 rfl (lb9 rfl) ?_ | refine ldN_f hS 1 rfl (lb9 rfl) ?_ | refine ldN_f hS 2 rfl (lb9 rfl) ?_ | refine .mk ⟨by omega, by omega⟩ ?_ | (refine dr9 hS ?_; intro w1 hS) | refine br_t (by assumption) ?_ | refine br_f (by assumption) ?_)
  (conv => whnf)
  refine fc_m (num8_c bd bq S _ _ hQ hs 4 (by decide) _ hS.ownF) ?_
  rintro v w3 ⟨rfl, L2, hQ, hS'⟩
  replace hS := hS.callW hS'
  repeat ((conv => whnf); first | (apply q_i; focus (intro w1 hS; (conv => whnf); first | exact ⟨rfl, rfl⟩ | ((first | refine ld_f hS 0 rfl rfl ?_ | refine ld_f hS 1 rfl rfl ?_ | refine ldA_f hS 0 rfl rfl ?_ | refine ldA_f hS 1 rfl rfl ?_); (conv => whnf); exact ⟨rfl, rfl⟩) | ((refine ldN_f hS 0 rfl (lb9 rfl) ?_); (conv => whnf); exact ⟨rfl, rfl⟩) | ((refine ldN_f hS 1 rfl (lb9 rfl) ?_); (conv => whnf); exact ⟨rfl, rfl⟩) | ((refine ldN_f hS 2 rfl (lb9 rfl) ?_); (conv => whnf); exact ⟨rfl, rfl⟩) | ((refine .mk ⟨by omega, by omega⟩ ?_); (conv => whnf); exact ⟨rfl, rfl⟩))) | (refine nw_f hS ?_; intro b w1 hS) | refine as_i hS ?_ | refine as_i (hS.subs (List.nil_sublist _) sb9) ?_ | refine as_i (hS.subs (List.Sublist.refl _) sb9) ?_ | refine bar_f hS ?_ | refine ld_f hS 0 rfl rfl ?_ | refine ld_f hS 1 rfl rfl ?_ | refine ldA_f hS 0 rfl rfl ?_ | refine ldA_f hS 1 rfl rfl ?_ | ((first | refine stN_f hS 0 rfl (lb9 rfl) rfl rfl ?_ | refine stN_f hS 1 rfl (lb9 rfl) rfl rfl ?_ | refine stM_f hS 0 rfl (lb9 rfl) rfl ?_ | refine stM_f hS 1 rfl (lb9 rfl) rfl ?_); (conv => whnf); intro w1 hS) | refine ldN_f hS 0 rfl (lb9 rfl) ?_ | refine ldN_f hS 1 rfl (lb9 rfl) ?_ | refine ldN_f hS 2 rfl (lb9 rfl) ?_ | refine .mk ⟨by omega, by omega⟩ ?_ | (refine dr9 hS ?_; intro w1 hS) | refine br_t (by assumption) ?_ | refine br_f (by assumption) ?_)
  rw [hq8]
  exact ⟨{ zeroRx k with n0 := numW 4 s1, n1 := numW 4 (aftW 4 s1), n2 := numW 4 (aftW 4 (aftW 4 s1)) }, noHd, [], [], rfl, fun _ => rfl, fun w'' _ => mem_none _ w'' rfl rfl, L2, hQ, by simpa using hS.fr (List.Sublist.refl _)⟩
set_option maxHeartbeats 4000000 in
theorem rec8k3_c (bd bq : Nat) (S : List UInt8) (s : RS) (L : LM) (hQ : Q8 bd bq S s L) (hs : S.length ≤ 4611686018427387904) (w : World) (hS : St (keys L) w w L) (hk : numW 1 s = 3) :
    Fc Tryz.prog 32 [.pointer (some ⟨bd, 0, none⟩)] w (Got8 bd bq S s (keys L) w) := by
  have hq8 := wr8 s
  have h1 : oneR s = bodyR (numW 1 s) (aftW 1 s) := rfl
  unfold Got8
  rw [h1, bodyR3 _ hk]
  clear h1
  have hn1 := fun w' => num8_c bd bq S s L hQ hs 1 (by decide) w'
  generalize numW 1 s = k at *
  generalize aftW 1 s = s1 at *
  have g1 : (IntKind.u8.wrap k == 1) = false := by rw [hq8]; rw [hk]; rfl
  have g2 : (IntKind.u8.wrap k == 2) = false := by rw [hq8]; rw [hk]; rfl
  have g3 : (IntKind.u8.wrap k == 3) = true := by rw [hq8]; rw [hk]; rfl
  have g4 : (IntKind.u8.wrap k == 4) = false := by rw [hq8]; rw [hk]; rfl
  have g5 : (IntKind.u8.wrap k == 5) = false := by rw [hq8]; rw [hk]; rfl
  have g6 : (IntKind.u8.wrap k == 6) = false := by rw [hq8]; rw [hk]; rfl
  have g7 : (IntKind.u8.wrap k == 7) = false := by rw [hq8]; rw [hk]; rfl
  have g8 : (IntKind.u8.wrap k == 8) = false := by rw [hq8]; rw [hk]; rfl
  refine fc_i TB_ok Tryz.func32 rfl (by kernel_rfl) ?_
  have hS : Sf (keys L) w w (L ++ []) [] := ⟨by simpa using hS⟩
  clear hQ
  repeat ((conv => whnf); first | (apply q_i; focus (intro w1 hS; (conv => whnf); first | exact ⟨rfl, rfl⟩ | ((first | refine ld_f hS 0 rfl rfl ?_ | refine ldA_f hS 0 rfl rfl ?_); (conv => whnf); exact ⟨rfl, rfl⟩))) | (refine nw_f hS ?_; intro b w1 hS) | refine as_i hS ?_ | refine as_i (hS.subs (List.nil_sublist _) sb9) ?_ | refine as_i (hS.subs (List.Sublist.refl _) sb9) ?_ | refine bar_f hS ?_ | refine ld_f hS 0 rfl rfl ?_ | refine ldA_f hS 0 rfl rfl ?_ | ((first | refine stN_f hS 0 rfl (lb9 rfl) rfl rfl ?_ | refine stM_f hS 0 rfl (lb9 rfl) rfl ?_); (conv => whnf); intro w1 hS) | (refine dr9 hS ?_; intro w1 hS) | refine br_t (by assumption) ?_ | refine br_f (by assumption) ?_)
  refine fc_m (hn1 _ hS.ownF) ?_
  rintro v w1 ⟨rfl, L1, hQ, hS'⟩
  replace hS := hS.callW hS'
  repeat ((conv => whnf); first | (apply q_i; focus (intro w1 hS; (conv => whnf); first | exact ⟨rfl, rfl⟩ | ((first | refine ld_f hS 0 rfl rfl ?_ | refine ld_f hS 1 rfl rfl ?_ | refine ldA_f hS 0 rfl rfl ?_ | refine ldA_f hS 1 rfl rfl ?_); (conv => whnf); exact ⟨rfl, rfl⟩) | ((refine ldN_f hS 0 rfl (lb9 rfl) ?_); (conv => whnf); exact ⟨rfl, rfl⟩) | ((refine ldN_f hS 1 rfl (lb9 rfl) ?_); (conv => whnf); exact ⟨rfl, rfl⟩) | ((refine ldN_f hS 2 rfl (lb9 rfl) ?_); (conv => whnf); exact ⟨rfl, rfl⟩) | ((refine .mk ⟨by omega, by omega⟩ ?_); (conv => whnf); exact ⟨rfl, rfl⟩))) | (refine nw_f hS ?_; intro b w1 hS) | refine as_i hS ?_ | refine as_i (hS.subs (List.nil_sublist _) sb9) ?_ | refine as_i (hS.subs (List.Sublist.refl _) sb9) ?_ | refine bar_f hS ?_ | refine ld_f hS 0 rfl rfl ?_ | refine ld_f hS 1 rfl rfl ?_ | refine ldA_f hS 0 rfl rfl ?_ | refine ldA_f hS 1 rfl rfl ?_ | ((first | refine stN_f hS 0 rfl (lb9 rfl) rfl rfl ?_ | refine stN_f hS 1 rfl (lb9 rfl) rfl rfl ?_ | refine stM_f hS 0 rfl (lb9 rfl) rfl ?_ | refine stM_f hS 1 rfl (lb9 rfl) rfl ?_); (conv => whnf); intro w1 hS) | refine ldN_f hS 0 rfl (lb9 rfl) ?_ | refine ldN_f hS 1 rfl (lb9 rfl) ?_ | refine ldN_f hS 2 rfl (lb9 rfl) ?_ | refine .mk ⟨by omega, by omega⟩ ?_ | (refine dr9 hS ?_; intro w1 hS) | refine br_t (by assumption) ?_ | refine br_f (by assumption) ?_)
  (conv => whnf)
  refine fc_m (num8_c bd bq S _ _ hQ hs 1 (by decide) _ hS.ownF) ?_
  rintro v w3 ⟨rfl, L2, hQ, hS'⟩
  replace hS := hS.callW hS'
  repeat ((conv => whnf); first | (apply q_i; focus (intro w1 hS; (conv => whnf); first | exact ⟨rfl, rfl⟩ | ((first | refine ld_f hS 0 rfl rfl ?_ | refine ld_f hS 1 rfl rfl ?_ | refine ldA_f hS 0 rfl rfl ?_ | refine ldA_f hS 1 rfl rfl ?_); (conv => whnf); exact ⟨rfl, rfl⟩) | ((refine ldN_f hS 0 rfl (lb9 rfl) ?_); (conv => whnf); exact ⟨rfl, rfl⟩) | ((refine ldN_f hS 1 rfl (lb9 rfl) ?_); (conv => whnf); exact ⟨rfl, rfl⟩) | ((refine ldN_f hS 2 rfl (lb9 rfl) ?_); (conv => whnf); exact ⟨rfl, rfl⟩) | ((refine .mk ⟨by omega, by omega⟩ ?_); (conv => whnf); exact ⟨rfl, rfl⟩))) | (refine nw_f hS ?_; intro b w1 hS) | refine as_i hS ?_ | refine as_i (hS.subs (List.nil_sublist _) sb9) ?_ | refine as_i (hS.subs (List.Sublist.refl _) sb9) ?_ | refine bar_f hS ?_ | refine ld_f hS 0 rfl rfl ?_ | refine ld_f hS 1 rfl rfl ?_ | refine ldA_f hS 0 rfl rfl ?_ | refine ldA_f hS 1 rfl rfl ?_ | ((first | refine stN_f hS 0 rfl (lb9 rfl) rfl rfl ?_ | refine stN_f hS 1 rfl (lb9 rfl) rfl rfl ?_ | refine stM_f hS 0 rfl (lb9 rfl) rfl ?_ | refine stM_f hS 1 rfl (lb9 rfl) rfl ?_); (conv => whnf); intro w1 hS) | refine ldN_f hS 0 rfl (lb9 rfl) ?_ | refine ldN_f hS 1 rfl (lb9 rfl) ?_ | refine ldN_f hS 2 rfl (lb9 rfl) ?_ | refine .mk ⟨by omega, by omega⟩ ?_ | (refine dr9 hS ?_; intro w1 hS) | refine br_t (by assumption) ?_ | refine br_f (by assumption) ?_)
  (conv => whnf)
  refine fc_m (num8_c bd bq S _ _ hQ hs 4 (by decide) _ hS.ownF) ?_
  rintro v w3 ⟨rfl, L2, hQ, hS'⟩
  replace hS := hS.callW hS'
  repeat ((conv => whnf); first | (apply q_i; focus (intro w1 hS; (conv => whnf); first | exact ⟨rfl, rfl⟩ | ((first | refine ld_f hS 0 rfl rfl ?_ | refine ld_f hS 1 rfl rfl ?_ | refine ldA_f hS 0 rfl rfl ?_ | refine ldA_f hS 1 rfl rfl ?_); (conv => whnf); exact ⟨rfl, rfl⟩) | ((refine ldN_f hS 0 rfl (lb9 rfl) ?_); (conv => whnf); exact ⟨rfl, rfl⟩) | ((refine ldN_f hS 1 rfl (lb9 rfl) ?_); (conv => whnf); exact ⟨rfl, rfl⟩) | ((refine ldN_f hS 2 rfl (lb9 rfl) ?_); (conv => whnf); exact ⟨rfl, rfl⟩) | ((refine .mk ⟨by omega, by omega⟩ ?_); (conv => whnf); exact ⟨rfl, rfl⟩))) | (refine nw_f hS ?_; intro b w1 hS) | refine as_i hS ?_ | refine as_i (hS.subs (List.nil_sublist _) sb9) ?_ | refine as_i (hS.subs (List.Sublist.refl _) sb9) ?_ | refine bar_f hS ?_ | refine ld_f hS 0 rfl rfl ?_ | refine ld_f hS 1 rfl rfl ?_ | refine ldA_f hS 0 rfl rfl ?_ | refine ldA_f hS 1 rfl rfl ?_ | ((first | refine stN_f hS 0 rfl (lb9 rfl) rfl rfl ?_ | refine stN_f hS 1 rfl (lb9 rfl) rfl rfl ?_ | refine stM_f hS 0 rfl (lb9 rfl) rfl ?_ | refine stM_f hS 1 rfl (lb9 rfl) rfl ?_); (conv => whnf); intro w1 hS) | refine ldN_f hS 0 rfl (lb9 rfl) ?_ | refine ldN_f hS 1 rfl (lb9 rfl) ?_ | refine ldN_f hS 2 rfl (lb9 rfl) ?_ | refine .mk ⟨by omega, by omega⟩ ?_ | (refine dr9 hS ?_; intro w1 hS) | refine br_t (by assumption) ?_ | refine br_f (by assumption) ?_)
  (conv => whnf)
  refine fc_m (num8_c bd bq S _ _ hQ hs 4 (by decide) _ hS.ownF) ?_
  rintro v w3 ⟨rfl, L2, hQ, hS'⟩
  replace hS := hS.callW hS'
  repeat ((conv => whnf); first | (apply q_i; focus (intro w1 hS; (conv => whnf); first | exact ⟨rfl, rfl⟩ | ((first | refine ld_f hS 0 rfl rfl ?_ | refine ld_f hS 1 rfl rfl ?_ | refine ldA_f hS 0 rfl rfl ?_ | refine ldA_f hS 1 rfl rfl ?_); (conv => whnf); exact ⟨rfl, rfl⟩) | ((refine ldN_f hS 0 rfl (lb9 rfl) ?_); (conv => whnf); exact ⟨rfl, rfl⟩) | ((refine ldN_f hS 1 rfl (lb9 rfl) ?_); (conv => whnf); exact ⟨rfl, rfl⟩) | ((refine ldN_f hS 2 rfl (lb9 rfl) ?_); (conv => whnf); exact ⟨rfl, rfl⟩) | ((refine .mk ⟨by omega, by omega⟩ ?_); (conv => whnf); exact ⟨rfl, rfl⟩))) | (refine nw_f hS ?_; intro b w1 hS) | refine as_i hS ?_ | refine as_i (hS.subs (List.nil_sublist _) sb9) ?_ | refine as_i (hS.subs (List.Sublist.refl _) sb9) ?_ | refine bar_f hS ?_ | refine ld_f hS 0 rfl rfl ?_ | refine ld_f hS 1 rfl rfl ?_ | refine ldA_f hS 0 rfl rfl ?_ | refine ldA_f hS 1 rfl rfl ?_ | ((first | refine stN_f hS 0 rfl (lb9 rfl) rfl rfl ?_ | refine stN_f hS 1 rfl (lb9 rfl) rfl rfl ?_ | refine stM_f hS 0 rfl (lb9 rfl) rfl ?_ | refine stM_f hS 1 rfl (lb9 rfl) rfl ?_); (conv => whnf); intro w1 hS) | refine ldN_f hS 0 rfl (lb9 rfl) ?_ | refine ldN_f hS 1 rfl (lb9 rfl) ?_ | refine ldN_f hS 2 rfl (lb9 rfl) ?_ | refine .mk ⟨by omega, by omega⟩ ?_ | (refine dr9 hS ?_; intro w1 hS) | refine br_t (by assumption) ?_ | refine br_f (by assumption) ?_)
  rw [hq8, wr8, wr4]
  exact ⟨{ zeroRx k with rk := numW 1 s1, ra := numW 4 (aftW 1 s1), rq := numW 4 (aftW 4 (aftW 1 s1)) }, noHd, [], [], rfl, fun _ => rfl, fun w'' _ => mem_none _ w'' rfl rfl, L2, hQ, by simpa using hS.fr (List.Sublist.refl _)⟩
set_option maxHeartbeats 4000000 in
theorem rec8k5_c (bd bq : Nat) (S : List UInt8) (s : RS) (L : LM) (hQ : Q8 bd bq S s L) (hs : S.length ≤ 4611686018427387904) (w : World) (hS : St (keys L) w w L) (hk : numW 1 s = 5) :
    Fc Tryz.prog 32 [.pointer (some ⟨bd, 0, none⟩)] w (Got8 bd bq S s (keys L) w) := by
  have hq8 := wr8 s
  have h1 : oneR s = bodyR (numW 1 s) (aftW 1 s) := rfl
  unfold Got8
  rw [h1, bodyR5 _ hk]
  clear h1
  have hn1 := fun w' => num8_c bd bq S s L hQ hs 1 (by decide) w'
  generalize numW 1 s = k at *
  generalize aftW 1 s = s1 at *
  have g1 : (IntKind.u8.wrap k == 1) = false := by rw [hq8]; rw [hk]; rfl
  have g2 : (IntKind.u8.wrap k == 2) = false := by rw [hq8]; rw [hk]; rfl
  have g3 : (IntKind.u8.wrap k == 3) = false := by rw [hq8]; rw [hk]; rfl
  have g4 : (IntKind.u8.wrap k == 4) = false := by rw [hq8]; rw [hk]; rfl
  have g5 : (IntKind.u8.wrap k == 5) = true := by rw [hq8]; rw [hk]; rfl
  have g6 : (IntKind.u8.wrap k == 6) = false := by rw [hq8]; rw [hk]; rfl
  have g7 : (IntKind.u8.wrap k == 7) = false := by rw [hq8]; rw [hk]; rfl
  have g8 : (IntKind.u8.wrap k == 8) = false := by rw [hq8]; rw [hk]; rfl
  refine fc_i TB_ok Tryz.func32 rfl (by kernel_rfl) ?_
  have hS : Sf (keys L) w w (L ++ []) [] := ⟨by simpa using hS⟩
  clear hQ
  repeat ((conv => whnf); first | (apply q_i; focus (intro w1 hS; (conv => whnf); first | exact ⟨rfl, rfl⟩ | ((first | refine ld_f hS 0 rfl rfl ?_ | refine ldA_f hS 0 rfl rfl ?_); (conv => whnf); exact ⟨rfl, rfl⟩))) | (refine nw_f hS ?_; intro b w1 hS) | refine as_i hS ?_ | refine as_i (hS.subs (List.nil_sublist _) sb9) ?_ | refine as_i (hS.subs (List.Sublist.refl _) sb9) ?_ | refine bar_f hS ?_ | refine ld_f hS 0 rfl rfl ?_ | refine ldA_f hS 0 rfl rfl ?_ | ((first | refine stN_f hS 0 rfl (lb9 rfl) rfl rfl ?_ | refine stM_f hS 0 rfl (lb9 rfl) rfl ?_); (conv => whnf); intro w1 hS) | (refine dr9 hS ?_; intro w1 hS) | refine br_t (by assumption) ?_ | refine br_f (by assumption) ?_)
  refine fc_m (hn1 _ hS.ownF) ?_
  rintro v w1 ⟨rfl, L1, hQ, hS'⟩
  replace hS := hS.callW hS'
  repeat ((conv => whnf); first | (apply q_i; focus (intro w1 hS; (conv => whnf); first | exact ⟨rfl, rfl⟩ | ((first | refine ld_f hS 0 rfl rfl ?_ | refine ld_f hS 1 rfl rfl ?_ | refine ldA_f hS 0 rfl rfl ?_ | refine ldA_f hS 1 rfl rfl ?_); (conv => whnf); exact ⟨rfl, rfl⟩) | ((refine ldN_f hS 0 rfl (lb9 rfl) ?_); (conv => whnf); exact ⟨rfl, rfl⟩) | ((refine ldN_f hS 1 rfl (lb9 rfl) ?_); (conv => whnf); exact ⟨rfl, rfl⟩) | ((refine ldN_f hS 2 rfl (lb9 rfl) ?_); (conv => whnf); exact ⟨rfl, rfl⟩) | ((refine .mk ⟨by omega, by omega⟩ ?_); (conv => whnf); exact ⟨rfl, rfl⟩))) | (refine nw_f hS ?_; intro b w1 hS) | refine as_i hS ?_ | refine as_i (hS.subs (List.nil_sublist _) sb9) ?_ | refine as_i (hS.subs (List.Sublist.refl _) sb9) ?_ | refine bar_f hS ?_ | refine ld_f hS 0 rfl rfl ?_ | refine ld_f hS 1 rfl rfl ?_ | refine ldA_f hS 0 rfl rfl ?_ | refine ldA_f hS 1 rfl rfl ?_ | ((first | refine stN_f hS 0 rfl (lb9 rfl) rfl rfl ?_ | refine stN_f hS 1 rfl (lb9 rfl) rfl rfl ?_ | refine stM_f hS 0 rfl (lb9 rfl) rfl ?_ | refine stM_f hS 1 rfl (lb9 rfl) rfl ?_); (conv => whnf); intro w1 hS) | refine ldN_f hS 0 rfl (lb9 rfl) ?_ | refine ldN_f hS 1 rfl (lb9 rfl) ?_ | refine ldN_f hS 2 rfl (lb9 rfl) ?_ | refine .mk ⟨by omega, by omega⟩ ?_ | (refine dr9 hS ?_; intro w1 hS) | refine br_t (by assumption) ?_ | refine br_f (by assumption) ?_)
  (conv => whnf)
  refine fc_m (text8_c bd bq S _ _ hQ hs _ hS.ownF) ?_
  rintro v w3 ⟨rfl, L2, hQ, hS'⟩
  replace hS := hS.callW hS'
  repeat ((conv => whnf); first | (apply q_i; focus (intro w1 hS; (conv => whnf); first | exact ⟨rfl, rfl⟩ | ((first | refine ld_f hS 0 rfl rfl ?_ | refine ld_f hS 1 rfl rfl ?_ | refine ldA_f hS 0 rfl rfl ?_ | refine ldA_f hS 1 rfl rfl ?_); (conv => whnf); exact ⟨rfl, rfl⟩) | ((refine ldN_f hS 0 rfl (lb9 rfl) ?_); (conv => whnf); exact ⟨rfl, rfl⟩) | ((refine ldN_f hS 1 rfl (lb9 rfl) ?_); (conv => whnf); exact ⟨rfl, rfl⟩) | ((refine ldN_f hS 2 rfl (lb9 rfl) ?_); (conv => whnf); exact ⟨rfl, rfl⟩) | ((refine .mk ⟨by omega, by omega⟩ ?_); (conv => whnf); exact ⟨rfl, rfl⟩))) | (refine nw_f hS ?_; intro b w1 hS) | refine as_i hS ?_ | refine as_i (hS.subs (List.nil_sublist _) sb9) ?_ | refine as_i (hS.subs (List.Sublist.refl _) sb9) ?_ | refine bar_f hS ?_ | refine ld_f hS 0 rfl rfl ?_ | refine ld_f hS 1 rfl rfl ?_ | refine ldA_f hS 0 rfl rfl ?_ | refine ldA_f hS 1 rfl rfl ?_ | ((first | refine stN_f hS 0 rfl (lb9 rfl) rfl rfl ?_ | refine stN_f hS 1 rfl (lb9 rfl) rfl rfl ?_ | refine stM_f hS 0 rfl (lb9 rfl) rfl ?_ | refine stM_f hS 1 rfl (lb9 rfl) rfl ?_); (conv => whnf); intro w1 hS) | refine ldN_f hS 0 rfl (lb9 rfl) ?_ | refine ldN_f hS 1 rfl (lb9 rfl) ?_ | refine ldN_f hS 2 rfl (lb9 rfl) ?_ | refine .mk ⟨by omega, by omega⟩ ?_ | (refine dr9 hS ?_; intro w1 hS) | refine br_t (by assumption) ?_ | refine br_f (by assumption) ?_)
  (conv => whnf)
  refine fc_m (num8_c bd bq S _ _ hQ hs 4 (by decide) _ hS.ownF) ?_
  rintro v w3 ⟨rfl, L2, hQ, hS'⟩
  replace hS := hS.callW hS'
  repeat ((conv => whnf); first | (apply q_i; focus (intro w1 hS; (conv => whnf); first | exact ⟨rfl, rfl⟩ | ((first | refine ld_f hS 0 rfl rfl ?_ | refine ld_f hS 1 rfl rfl ?_ | refine ldA_f hS 0 rfl rfl ?_ | refine ldA_f hS 1 rfl rfl ?_); (conv => whnf); exact ⟨rfl, rfl⟩) | ((refine ldN_f hS 0 rfl (lb9 rfl) ?_); (conv => whnf); exact ⟨rfl, rfl⟩) | ((refine ldN_f hS 1 rfl (lb9 rfl) ?_); (conv => whnf); exact ⟨rfl, rfl⟩) | ((refine ldN_f hS 2 rfl (lb9 rfl) ?_); (conv => whnf); exact ⟨rfl, rfl⟩) | ((refine .mk ⟨by omega, by omega⟩ ?_); (conv => whnf); exact ⟨rfl, rfl⟩))) | (refine nw_f hS ?_; intro b w1 hS) | refine as_i hS ?_ | refine as_i (hS.subs (List.nil_sublist _) sb9) ?_ | refine as_i (hS.subs (List.Sublist.refl _) sb9) ?_ | refine bar_f hS ?_ | refine ld_f hS 0 rfl rfl ?_ | refine ld_f hS 1 rfl rfl ?_ | refine ldA_f hS 0 rfl rfl ?_ | refine ldA_f hS 1 rfl rfl ?_ | ((first | refine stN_f hS 0 rfl (lb9 rfl) rfl rfl ?_ | refine stN_f hS 1 rfl (lb9 rfl) rfl rfl ?_ | refine stM_f hS 0 rfl (lb9 rfl) rfl ?_ | refine stM_f hS 1 rfl (lb9 rfl) rfl ?_); (conv => whnf); intro w1 hS) | refine ldN_f hS 0 rfl (lb9 rfl) ?_ | refine ldN_f hS 1 rfl (lb9 rfl) ?_ | refine ldN_f hS 2 rfl (lb9 rfl) ?_ | refine .mk ⟨by omega, by omega⟩ ?_ | (refine dr9 hS ?_; intro w1 hS) | refine br_t (by assumption) ?_ | refine br_f (by assumption) ?_)
  (conv => whnf)
  refine fc_m (num8_c bd bq S _ _ hQ hs 4 (by decide) _ hS.ownF) ?_
  rintro v w3 ⟨rfl, L2, hQ, hS'⟩
  replace hS := hS.callW hS'
  repeat ((conv => whnf); first | (apply q_i; focus (intro w1 hS; (conv => whnf); first | exact ⟨rfl, rfl⟩ | ((first | refine ld_f hS 0 rfl rfl ?_ | refine ld_f hS 1 rfl rfl ?_ | refine ldA_f hS 0 rfl rfl ?_ | refine ldA_f hS 1 rfl rfl ?_); (conv => whnf); exact ⟨rfl, rfl⟩) | ((refine ldN_f hS 0 rfl (lb9 rfl) ?_); (conv => whnf); exact ⟨rfl, rfl⟩) | ((refine ldN_f hS 1 rfl (lb9 rfl) ?_); (conv => whnf); exact ⟨rfl, rfl⟩) | ((refine ldN_f hS 2 rfl (lb9 rfl) ?_); (conv => whnf); exact ⟨rfl, rfl⟩) | ((refine .mk ⟨by omega, by omega⟩ ?_); (conv => whnf); exact ⟨rfl, rfl⟩))) | (refine nw_f hS ?_; intro b w1 hS) | refine as_i hS ?_ | refine as_i (hS.subs (List.nil_sublist _) sb9) ?_ | refine as_i (hS.subs (List.Sublist.refl _) sb9) ?_ | refine bar_f hS ?_ | refine ld_f hS 0 rfl rfl ?_ | refine ld_f hS 1 rfl rfl ?_ | refine ldA_f hS 0 rfl rfl ?_ | refine ldA_f hS 1 rfl rfl ?_ | ((first | refine stN_f hS 0 rfl (lb9 rfl) rfl rfl ?_ | refine stN_f hS 1 rfl (lb9 rfl) rfl rfl ?_ | refine stM_f hS 0 rfl (lb9 rfl) rfl ?_ | refine stM_f hS 1 rfl (lb9 rfl) rfl ?_); (conv => whnf); intro w1 hS) | refine ldN_f hS 0 rfl (lb9 rfl) ?_ | refine ldN_f hS 1 rfl (lb9 rfl) ?_ | refine ldN_f hS 2 rfl (lb9 rfl) ?_ | refine .mk ⟨by omega, by omega⟩ ?_ | (refine dr9 hS ?_; intro w1 hS) | refine br_t (by assumption) ?_ | refine br_f (by assumption) ?_)
  (conv => whnf)
  refine fc_m (num8_c bd bq S _ _ hQ hs 1 (by decide) _ hS.ownF) ?_
  rintro v w3 ⟨rfl, L2, hQ, hS'⟩
  replace hS := hS.callW hS'
  repeat ((conv => whnf); first | (apply q_i; focus (intro w1 hS; (conv => whnf); first | exact ⟨rfl, rfl⟩ | ((first | refine ld_f hS 0 rfl rfl ?_ | refine ld_f hS 1 rfl rfl ?_ | refine ldA_f hS 0 rfl rfl ?_ | refine ldA_f hS 1 rfl rfl ?_); (conv => whnf); exact ⟨rfl, rfl⟩) | ((refine ldN_f hS 0 rfl (lb9 rfl) ?_); (conv => whnf); exact ⟨rfl, rfl⟩) | ((refine ldN_f hS 1 rfl (lb9 rfl) ?_); (conv => whnf); exact ⟨rfl, rfl⟩) | ((refine ldN_f hS 2 rfl (lb9 rfl) ?_); (conv => whnf); exact ⟨rfl, rfl⟩) | ((refine .mk ⟨by omega, by omega⟩ ?_); (conv => whnf); exact ⟨rfl, rfl⟩))) | (refine nw_f hS ?_; intro b w1 hS) | refine as_i hS ?_ | refine as_i (hS.subs (List.nil_sublist _) sb9) ?_ | refine as_i (hS.subs (List.Sublist.refl _) sb9) ?_ | refine bar_f hS ?_ | refine ld_f hS 0 rfl rfl ?_ | refine ld_f hS 1 rfl rfl ?_ | refine ldA_f hS 0 rfl rfl ?_ | refine ldA_f hS 1 rfl rfl ?_ | ((first | refine stN_f hS 0 rfl (lb9 rfl) rfl rfl ?_ | refine stN_f hS 1 rfl (lb9 rfl) rfl rfl ?_ | refine stM_f hS 0 rfl (lb9 rfl) rfl ?_ | refine stM_f hS 1 rfl (lb9 rfl) rfl ?_); (conv => whnf); intro w1 hS) | refine ldN_f hS 0 rfl (lb9 rfl) ?_ | refine ldN_f hS 1 rfl (lb9 rfl) ?_ | refine ldN_f hS 2 rfl (lb9 rfl) ?_ | refine .mk ⟨by omega, by omega⟩ ?_ | (refine dr9 hS ?_; intro w1 hS) | refine br_t (by assumption) ?_ | refine br_f (by assumption) ?_)
  (conv => whnf)
  refine fc_m (value8_c bd bq S _ _ hQ hs _ hS.ownF) ?_
  rintro v w3 ⟨A, c, Lv, rfl, hH, L2, hQ, hS'⟩
  replace hS := hS.callW hS'
  repeat ((conv => whnf); first | (apply q_i; focus (intro w1 hS; (conv => whnf); first | exact ⟨rfl, rfl⟩ | ((first | refine ld_f hS 0 rfl rfl ?_ | refine ld_f hS 1 rfl rfl ?_ | refine ldA_f hS 0 rfl rfl ?_ | refine ldA_f hS 1 rfl rfl ?_); (conv => whnf); exact ⟨rfl, rfl⟩) | ((refine ldN_f hS 0 rfl (lb9 rfl) ?_); (conv => whnf); exact ⟨rfl, rfl⟩) | ((refine ldN_f hS 1 rfl (lb9 rfl) ?_); (conv => whnf); exact ⟨rfl, rfl⟩) | ((refine ldN_f hS 2 rfl (lb9 rfl) ?_); (conv => whnf); exact ⟨rfl, rfl⟩) | ((refine .mk ⟨by omega, by omega⟩ ?_); (conv => whnf); exact ⟨rfl, rfl⟩))) | (refine nw_f hS ?_; intro b w1 hS) | refine as_i hS ?_ | refine as_i (hS.subs (List.nil_sublist _) sb9) ?_ | refine as_i (hS.subs (List.Sublist.refl _) sb9) ?_ | refine bar_f hS ?_ | refine ld_f hS 0 rfl rfl ?_ | refine ld_f hS 1 rfl rfl ?_ | refine ldA_f hS 0 rfl rfl ?_ | refine ldA_f hS 1 rfl rfl ?_ | ((first | refine stN_f hS 0 rfl (lb9 rfl) rfl rfl ?_ | refine stN_f hS 1 rfl (lb9 rfl) rfl rfl ?_ | refine stM_f hS 0 rfl (lb9 rfl) rfl ?_ | refine stM_f hS 1 rfl (lb9 rfl) rfl ?_); (conv => whnf); intro w1 hS) | refine ldN_f hS 0 rfl (lb9 rfl) ?_ | refine ldN_f hS 1 rfl (lb9 rfl) ?_ | refine ldN_f hS 2 rfl (lb9 rfl) ?_ | refine .mk ⟨by omega, by omega⟩ ?_ | (refine dr9 hS ?_; intro w1 hS) | refine br_t (by assumption) ?_ | refine br_f (by assumption) ?_)
  rw [hq8, wr8]
  exact ⟨{ zeroRx k with p := (pthR s1).2, vi := (verR (pthR s1).1).2.1, vt := (verR (pthR s1).1).2.2.1, vc := (verR (pthR s1).1).2.2.2.1, v := (verR (pthR s1).1).2.2.2.2 }, ⟨none, 0, A, c⟩, [], Lv, rfl, fun _ => rfl, fun w'' hh => ⟨rfl, ⟨.inl rfl, fun m hm => nomatch hm⟩, hH w'' hh⟩, L2, hQ, by simpa using hS.fr (List.Sublist.refl _)⟩
set_option maxHeartbeats 4000000 in
theorem rec8k6_c (bd bq : Nat) (S : List UInt8) (s : RS) (L : LM) (hQ : Q8 bd bq S s L) (hs : S.length ≤ 4611686018427387904) (w : World) (hS : St (keys L) w w L) (hk : numW 1 s = 6) :
    Fc Tryz.prog 32 [.pointer (some ⟨bd, 0, none⟩)] w (Got8 bd bq S s (keys L) w) := by
  have hq8 := wr8 s
  have h1 : oneR s = bodyR (numW 1 s) (aftW 1 s) := rfl
  unfold Got8
  rw [h1, bodyR6 _ hk]
  clear h1
  have hn1 := fun w' => num8_c bd bq S s L hQ hs 1 (by decide) w'
  generalize numW 1 s = k at *
  generalize aftW 1 s = s1 at *
  have g1 : (IntKind.u8.wrap k == 1) = false := by rw [hq8]; rw [hk]; rfl
  have g2 : (IntKind.u8.wrap k == 2) = false := by rw [hq8]; rw [hk]; rfl
  have g3 : (IntKind.u8.wrap k == 3) = false := by rw [hq8]; rw [hk]; rfl
  have g4 : (IntKind.u8.wrap k == 4) = false := by rw [hq8]; rw [hk]; rfl
  have g5 : (IntKind.u8.wrap k == 5) = false := by rw [hq8]; rw [hk]; rfl
  have g6 : (IntKind.u8.wrap k == 6) = true := by rw [hq8]; rw [hk]; rfl
  have g7 : (IntKind.u8.wrap k == 7) = false := by rw [hq8]; rw [hk]; rfl
  have g8 : (IntKind.u8.wrap k == 8) = false := by rw [hq8]; rw [hk]; rfl
  refine fc_i TB_ok Tryz.func32 rfl (by kernel_rfl) ?_
  have hS : Sf (keys L) w w (L ++ []) [] := ⟨by simpa using hS⟩
  clear hQ
  repeat ((conv => whnf); first | (apply q_i; focus (intro w1 hS; (conv => whnf); first | exact ⟨rfl, rfl⟩ | ((first | refine ld_f hS 0 rfl rfl ?_ | refine ldA_f hS 0 rfl rfl ?_); (conv => whnf); exact ⟨rfl, rfl⟩))) | (refine nw_f hS ?_; intro b w1 hS) | refine as_i hS ?_ | refine as_i (hS.subs (List.nil_sublist _) sb9) ?_ | refine as_i (hS.subs (List.Sublist.refl _) sb9) ?_ | refine bar_f hS ?_ | refine ld_f hS 0 rfl rfl ?_ | refine ldA_f hS 0 rfl rfl ?_ | ((first | refine stN_f hS 0 rfl (lb9 rfl) rfl rfl ?_ | refine stM_f hS 0 rfl (lb9 rfl) rfl ?_); (conv => whnf); intro w1 hS) | (refine dr9 hS ?_; intro w1 hS) | refine br_t (by assumption) ?_ | refine br_f (by assumption) ?_)
  refine fc_m (hn1 _ hS.ownF) ?_
  rintro v w1 ⟨rfl, L1, hQ, hS'⟩
  replace hS := hS.callW hS'
  repeat ((conv => whnf); first | (apply q_i; focus (intro w1 hS; (conv => whnf); first | exact ⟨rfl, rfl⟩ | ((first | refine ld_f hS 0 rfl rfl ?_ | refine ld_f hS 1 rfl rfl ?_ | refine ldA_f hS 0 rfl rfl ?_ | refine ldA_f hS 1 rfl rfl ?_); (conv => whnf); exact ⟨rfl, rfl⟩) | ((refine ldN_f hS 0 rfl (lb9 rfl) ?_); (conv => whnf); exact ⟨rfl, rfl⟩) | ((refine ldN_f hS 1 rfl (lb9 rfl) ?_); (conv => whnf); exact ⟨rfl, rfl⟩) | ((refine ldN_f hS 2 rfl (lb9 rfl) ?_); (conv => whnf); exact ⟨rfl, rfl⟩) | ((refine .mk ⟨by omega, by omega⟩ ?_); (conv => whnf); exact ⟨rfl, rfl⟩))) | (refine nw_f hS ?_; intro b w1 hS) | refine as_i hS ?_ | refine as_i (hS.subs (List.nil_sublist _) sb9) ?_ | refine as_i (hS.subs (List.Sublist.refl _) sb9) ?_ | refine bar_f hS ?_ | refine ld_f hS 0 rfl rfl ?_ | refine ld_f hS 1 rfl rfl ?_ | refine ldA_f hS 0 rfl rfl ?_ | refine ldA_f hS 1 rfl rfl ?_ | ((first | refine stN_f hS 0 rfl (lb9 rfl) rfl rfl ?_ | refine stN_f hS 1 rfl (lb9 rfl) rfl rfl ?_ | refine stM_f hS 0 rfl (lb9 rfl) rfl ?_ | refine stM_f hS 1 rfl (lb9 rfl) rfl ?_); (conv => whnf); intro w1 hS) | refine ldN_f hS 0 rfl (lb9 rfl) ?_ | refine ldN_f hS 1 rfl (lb9 rfl) ?_ | refine ldN_f hS 2 rfl (lb9 rfl) ?_ | refine .mk ⟨by omega, by omega⟩ ?_ | (refine dr9 hS ?_; intro w1 hS) | refine br_t (by assumption) ?_ | refine br_f (by assumption) ?_)
  (conv => whnf)
  refine fc_m (num8_c bd bq S _ _ hQ hs 4 (by decide) _ hS.ownF) ?_
  rintro v w3 ⟨rfl, L2, hQ, hS'⟩
  replace hS := hS.callW hS'
  repeat ((conv => whnf); first | (apply q_i; focus (intro w1 hS; (conv => whnf); first | exact ⟨rfl, rfl⟩ | ((first | refine ld_f hS 0 rfl rfl ?_ | refine ld_f hS 1 rfl rfl ?_ | refine ldA_f hS 0 rfl rfl ?_ | refine ldA_f hS 1 rfl rfl ?_); (conv => whnf); exact ⟨rfl, rfl⟩) | ((refine ldN_f hS 0 rfl (lb9 rfl) ?_); (conv => whnf); exact ⟨rfl, rfl⟩) | ((refine ldN_f hS 1 rfl (lb9 rfl) ?_); (conv => whnf); exact ⟨rfl, rfl⟩) | ((refine ldN_f hS 2 rfl (lb9 rfl) ?_); (conv => whnf); exact ⟨rfl, rfl⟩) | ((refine .mk ⟨by omega, by omega⟩ ?_); (conv => whnf); exact ⟨rfl, rfl⟩))) | (refine nw_f hS ?_; intro b w1 hS) | refine as_i hS ?_ | refine as_i (hS.subs (List.nil_sublist _) sb9) ?_ | refine as_i (hS.subs (List.Sublist.refl _) sb9) ?_ | refine bar_f hS ?_ | refine ld_f hS 0 rfl rfl ?_ | refine ld_f hS 1 rfl rfl ?_ | refine ldA_f hS 0 rfl rfl ?_ | refine ldA_f hS 1 rfl rfl ?_ | ((first | refine stN_f hS 0 rfl (lb9 rfl) rfl rfl ?_ | refine stN_f hS 1 rfl (lb9 rfl) rfl rfl ?_ | refine stM_f hS 0 rfl (lb9 rfl) rfl ?_ | refine stM_f hS 1 rfl (lb9 rfl) rfl ?_); (conv => whnf); intro w1 hS) | refine ldN_f hS 0 rfl (lb9 rfl) ?_ | refine ldN_f hS 1 rfl (lb9 rfl) ?_ | refine ldN_f hS 2 rfl (lb9 rfl) ?_ | refine .mk ⟨by omega, by omega⟩ ?_ | (refine dr9 hS ?_; intro w1 hS) | refine br_t (by assumption) ?_ | refine br_f (by assumption) ?_)
  rw [hq8]
  exact ⟨{ zeroRx k with vi := numW 4 s1 }, noHd, [], [], rfl, fun _ => rfl, fun w'' _ => mem_none _ w'' rfl rfl, L2, hQ, by simpa using hS.fr (List.Sublist.refl _)⟩
set_option maxHeartbeats 4000000 in
theorem rec8k7_c (bd bq : Nat) (S : List UInt8) (s : RS) (L : LM) (hQ : Q8 bd bq S s L) (hs : S.length ≤ 4611686018427387904) (w : World) (hS : St (keys L) w w L) (hk : numW 1 s = 7) :
    Fc Tryz.prog 32 [.pointer (some ⟨bd, 0, none⟩)] w (Got8 bd bq S s (keys L) w) := by
  have hq8 := wr8 s
  have h1 : oneR s = bodyR (numW 1 s) (aftW 1 s) := rfl
  unfold Got8
  rw [h1, bodyR7 _ hk]
  clear h1
  have hn1 := fun w' => num8_c bd bq S s L hQ hs 1 (by decide) w'
  generalize numW 1 s = k at *
  generalize aftW 1 s = s1 at *
  have g1 : (IntKind.u8.wrap k == 1) = false := by rw [hq8]; rw [hk]; rfl
  have g2 : (IntKind.u8.wrap k == 2) = false := by rw [hq8]; rw [hk]; rfl
  have g3 : (IntKind.u8.wrap k == 3) = false := by rw [hq8]; rw [hk]; rfl
  have g4 : (IntKind.u8.wrap k == 4) = false := by rw [hq8]; rw [hk]; rfl
  have g5 : (IntKind.u8.wrap k == 5) = false := by rw [hq8]; rw [hk]; rfl
  have g6 : (IntKind.u8.wrap k == 6) = false := by rw [hq8]; rw [hk]; rfl
  have g7 : (IntKind.u8.wrap k == 7) = true := by rw [hq8]; rw [hk]; rfl
  have g8 : (IntKind.u8.wrap k == 8) = false := by rw [hq8]; rw [hk]; rfl
  refine fc_i TB_ok Tryz.func32 rfl (by kernel_rfl) ?_
  have hS : Sf (keys L) w w (L ++ []) [] := ⟨by simpa using hS⟩
  clear hQ
  repeat ((conv => whnf); first | (apply q_i; focus (intro w1 hS; (conv => whnf); first | exact ⟨rfl, rfl⟩ | ((first | refine ld_f hS 0 rfl rfl ?_ | refine ldA_f hS 0 rfl rfl ?_); (conv => whnf); exact ⟨rfl, rfl⟩))) | (refine nw_f hS ?_; intro b w1 hS) | refine as_i hS ?_ | refine as_i (hS.subs (List.nil_sublist _) sb9) ?_ | refine as_i (hS.subs (List.Sublist.refl _) sb9) ?_ | refine bar_f hS ?_ | refine ld_f hS 0 rfl rfl ?_ | refine ldA_f hS 0 rfl rfl ?_ | ((first | refine stN_f hS 0 rfl (lb9 rfl) rfl rfl ?_ | refine stM_f hS 0 rfl (lb9 rfl) rfl ?_); (conv => whnf); intro w1 hS) | (refine dr9 hS ?_; intro w1 hS) | refine br_t (by assumption) ?_ | refine br_f (by assumption) ?_)
  refine fc_m (hn1 _ hS.ownF) ?_
  rintro v w1 ⟨rfl, L1, hQ, hS'⟩
  replace hS := hS.callW hS'
  repeat ((conv => whnf); first | (apply q_i; focus (intro w1 hS; (conv => whnf); first | exact ⟨rfl, rfl⟩ | ((first | refine ld_f hS 0 rfl rfl ?_ | refine ld_f hS 1 rfl rfl ?_ | refine ldA_f hS 0 rfl rfl ?_ | refine ldA_f hS 1 rfl rfl ?_); (conv => whnf); exact ⟨rfl, rfl⟩) | ((refine ldN_f hS 0 rfl (lb9 rfl) ?_); (conv => whnf); exact ⟨rfl, rfl⟩) | ((refine ldN_f hS 1 rfl (lb9 rfl) ?_); (conv => whnf); exact ⟨rfl, rfl⟩) | ((refine ldN_f hS 2 rfl (lb9 rfl) ?_); (conv => whnf); exact ⟨rfl, rfl⟩) | ((refine .mk ⟨by omega, by omega⟩ ?_); (conv => whnf); exact ⟨rfl, rfl⟩))) | (refine nw_f hS ?_; intro b w1 hS) | refine as_i hS ?_ | refine as_i (hS.subs (List.nil_sublist _) sb9) ?_ | refine as_i (hS.subs (List.Sublist.refl _) sb9) ?_ | refine bar_f hS ?_ | refine ld_f hS 0 rfl rfl ?_ | refine ld_f hS 1 rfl rfl ?_ | refine ldA_f hS 0 rfl rfl ?_ | refine ldA_f hS 1 rfl rfl ?_ | ((first | refine stN_f hS 0 rfl (lb9 rfl) rfl rfl ?_ | refine stN_f hS 1 rfl (lb9 rfl) rfl rfl ?_ | refine stM_f hS 0 rfl (lb9 rfl) rfl ?_ | refine stM_f hS 1 rfl (lb9 rfl) rfl ?_); (conv => whnf); intro w1 hS) | refine ldN_f hS 0 rfl (lb9 rfl) ?_ | refine ldN_f hS 1 rfl (lb9 rfl) ?_ | refine ldN_f hS 2 rfl (lb9 rfl) ?_ | refine .mk ⟨by omega, by omega⟩ ?_ | (refine dr9 hS ?_; intro w1 hS) | refine br_t (by assumption) ?_ | refine br_f (by assumption) ?_)
  (conv => whnf)
  refine fc_m (num8_c bd bq S _ _ hQ hs 4 (by decide) _ hS.ownF) ?_
  rintro v w3 ⟨rfl, L2, hQ, hS'⟩
  replace hS := hS.callW hS'
  repeat ((conv => whnf); first | (apply q_i; focus (intro w1 hS; (conv => whnf); first | exact ⟨rfl, rfl⟩ | ((first | refine ld_f hS 0 rfl rfl ?_ | refine ld_f hS 1 rfl rfl ?_ | refine ldA_f hS 0 rfl rfl ?_ | refine ldA_f hS 1 rfl rfl ?_); (conv => whnf); exact ⟨rfl, rfl⟩) | ((refine ldN_f hS 0 rfl (lb9 rfl) ?_); (conv => whnf); exact ⟨rfl, rfl⟩) | ((refine ldN_f hS 1 rfl (lb9 rfl) ?_); (conv => whnf); exact ⟨rfl, rfl⟩) | ((refine ldN_f hS 2 rfl (lb9 rfl) ?_); (conv => whnf); exact ⟨rfl, rfl⟩) | ((refine .mk ⟨by omega, by omega⟩ ?_); (conv => whnf); exact ⟨rfl, rfl⟩))) | (refine nw_f hS ?_; intro b w1 hS) | refine as_i hS ?_ | refine as_i (hS.subs (List.nil_sublist _) sb9) ?_ | refine as_i (hS.subs (List.Sublist.refl _) sb9) ?_ | refine bar_f hS ?_ | refine ld_f hS 0 rfl rfl ?_ | refine ld_f hS 1 rfl rfl ?_ | refine ldA_f hS 0 rfl rfl ?_ | refine ldA_f hS 1 rfl rfl ?_ | ((first | refine stN_f hS 0 rfl (lb9 rfl) rfl rfl ?_ | refine stN_f hS 1 rfl (lb9 rfl) rfl rfl ?_ | refine stM_f hS 0 rfl (lb9 rfl) rfl ?_ | refine stM_f hS 1 rfl (lb9 rfl) rfl ?_); (conv => whnf); intro w1 hS) | refine ldN_f hS 0 rfl (lb9 rfl) ?_ | refine ldN_f hS 1 rfl (lb9 rfl) ?_ | refine ldN_f hS 2 rfl (lb9 rfl) ?_ | refine .mk ⟨by omega, by omega⟩ ?_ | (refine dr9 hS ?_; intro w1 hS) | refine br_t (by assumption) ?_ | refine br_f (by assumption) ?_)
  (conv => whnf)
  refine fc_m (num8_c bd bq S _ _ hQ hs 2 (by decide) _ hS.ownF) ?_
  rintro v w3 ⟨rfl, L2, hQ, hS'⟩
  replace hS := hS.callW hS'
  repeat ((conv => whnf); first | (apply q_i; focus (intro w1 hS; (conv => whnf); first | exact ⟨rfl, rfl⟩ | ((first | refine ld_f hS 0 rfl rfl ?_ | refine ld_f hS 1 rfl rfl ?_ | refine ldA_f hS 0 rfl rfl ?_ | refine ldA_f hS 1 rfl rfl ?_); (conv => whnf); exact ⟨rfl, rfl⟩) | ((refine ldN_f hS 0 rfl (lb9 rfl) ?_); (conv => whnf); exact ⟨rfl, rfl⟩) | ((refine ldN_f hS 1 rfl (lb9 rfl) ?_); (conv => whnf); exact ⟨rfl, rfl⟩) | ((refine ldN_f hS 2 rfl (lb9 rfl) ?_); (conv => whnf); exact ⟨rfl, rfl⟩) | ((refine .mk ⟨by omega, by omega⟩ ?_); (conv => whnf); exact ⟨rfl, rfl⟩))) | (refine nw_f hS ?_; intro b w1 hS) | refine as_i hS ?_ | refine as_i (hS.subs (List.nil_sublist _) sb9) ?_ | refine as_i (hS.subs (List.Sublist.refl _) sb9) ?_ | refine bar_f hS ?_ | refine ld_f hS 0 rfl rfl ?_ | refine ld_f hS 1 rfl rfl ?_ | refine ldA_f hS 0 rfl rfl ?_ | refine ldA_f hS 1 rfl rfl ?_ | ((first | refine stN_f hS 0 rfl (lb9 rfl) rfl rfl ?_ | refine stN_f hS 1 rfl (lb9 rfl) rfl rfl ?_ | refine stM_f hS 0 rfl (lb9 rfl) rfl ?_ | refine stM_f hS 1 rfl (lb9 rfl) rfl ?_); (conv => whnf); intro w1 hS) | refine ldN_f hS 0 rfl (lb9 rfl) ?_ | refine ldN_f hS 1 rfl (lb9 rfl) ?_ | refine ldN_f hS 2 rfl (lb9 rfl) ?_ | refine .mk ⟨by omega, by omega⟩ ?_ | (refine dr9 hS ?_; intro w1 hS) | refine br_t (by assumption) ?_ | refine br_f (by assumption) ?_)
  (conv => whnf)
  refine fc_m (num8_c bd bq S _ _ hQ hs 2 (by decide) _ hS.ownF) ?_
  rintro v w3 ⟨rfl, L2, hQ, hS'⟩
  replace hS := hS.callW hS'
  repeat ((conv => whnf); first | (apply q_i; focus (intro w1 hS; (conv => whnf); first | exact ⟨rfl, rfl⟩ | ((first | refine ld_f hS 0 rfl rfl ?_ | refine ld_f hS 1 rfl rfl ?_ | refine ldA_f hS 0 rfl rfl ?_ | refine ldA_f hS 1 rfl rfl ?_); (conv => whnf); exact ⟨rfl, rfl⟩) | ((refine ldN_f hS 0 rfl (lb9 rfl) ?_); (conv => whnf); exact ⟨rfl, rfl⟩) | ((refine ldN_f hS 1 rfl (lb9 rfl) ?_); (conv => whnf); exact ⟨rfl, rfl⟩) | ((refine ldN_f hS 2 rfl (lb9 rfl) ?_); (conv => whnf); exact ⟨rfl, rfl⟩) | ((refine .mk ⟨by omega, by omega⟩ ?_); (conv => whnf); exact ⟨rfl, rfl⟩))) | (refine nw_f hS ?_; intro b w1 hS) | refine as_i hS ?_ | refine as_i (hS.subs (List.nil_sublist _) sb9) ?_ | refine as_i (hS.subs (List.Sublist.refl _) sb9) ?_ | refine bar_f hS ?_ | refine ld_f hS 0 rfl rfl ?_ | refine ld_f hS 1 rfl rfl ?_ | refine ldA_f hS 0 rfl rfl ?_ | refine ldA_f hS 1 rfl rfl ?_ | ((first | refine stN_f hS 0 rfl (lb9 rfl) rfl rfl ?_ | refine stN_f hS 1 rfl (lb9 rfl) rfl rfl ?_ | refine stM_f hS 0 rfl (lb9 rfl) rfl ?_ | refine stM_f hS 1 rfl (lb9 rfl) rfl ?_); (conv => whnf); intro w1 hS) | refine ldN_f hS 0 rfl (lb9 rfl) ?_ | refine ldN_f hS 1 rfl (lb9 rfl) ?_ | refine ldN_f hS 2 rfl (lb9 rfl) ?_ | refine .mk ⟨by omega, by omega⟩ ?_ | (refine dr9 hS ?_; intro w1 hS) | refine br_t (by assumption) ?_ | refine br_f (by assumption) ?_)
  (conv => whnf)
  refine fc_m (num8_c bd bq S _ _ hQ hs 1 (by decide) _ hS.ownF) ?_
  rintro v w3 ⟨rfl, L2, hQ, hS'⟩
  replace hS := hS.callW hS'
  repeat ((conv => whnf); first | (apply q_i; focus (intro w1 hS; (conv => whnf); first | exact ⟨rfl, rfl⟩ | ((first | refine ld_f hS 0 rfl rfl ?_ | refine ld_f hS 1 rfl rfl ?_ | refine ldA_f hS 0 rfl rfl ?_ | refine ldA_f hS 1 rfl rfl ?_); (conv => whnf); exact ⟨rfl, rfl⟩) | ((refine ldN_f hS 0 rfl (lb9 rfl) ?_); (conv => whnf); exact ⟨rfl, rfl⟩) | ((refine ldN_f hS 1 rfl (lb9 rfl) ?_); (conv => whnf); exact ⟨rfl, rfl⟩) | ((refine ldN_f hS 2 rfl (lb9 rfl) ?_); (conv => whnf); exact ⟨rfl, rfl⟩) | ((refine .mk ⟨by omega, by omega⟩ ?_); (conv => whnf); exact ⟨rfl, rfl⟩))) | (refine nw_f hS ?_; intro b w1 hS) | refine as_i hS ?_ | refine as_i (hS.subs (List.nil_sublist _) sb9) ?_ | refine as_i (hS.subs (List.Sublist.refl _) sb9) ?_ | refine bar_f hS ?_ | refine ld_f hS 0 rfl rfl ?_ | refine ld_f hS 1 rfl rfl ?_ | refine ldA_f hS 0 rfl rfl ?_ | refine ldA_f hS 1 rfl rfl ?_ | ((first | refine stN_f hS 0 rfl (lb9 rfl) rfl rfl ?_ | refine stN_f hS 1 rfl (lb9 rfl) rfl rfl ?_ | refine stM_f hS 0 rfl (lb9 rfl) rfl ?_ | refine stM_f hS 1 rfl (lb9 rfl) rfl ?_); (conv => whnf); intro w1 hS) | refine ldN_f hS 0 rfl (lb9 rfl) ?_ | refine ldN_f hS 1 rfl (lb9 rfl) ?_ | refine ldN_f hS 2 rfl (lb9 rfl) ?_ | refine .mk ⟨by omega, by omega⟩ ?_ | (refine dr9 hS ?_; intro w1 hS) | refine br_t (by assumption) ?_ | refine br_f (by assumption) ?_)
  rw [hq8, wr2, wr2, wr1]
  exact ⟨{ zeroRx k with ci := (chkR s1).2.1, cb := (chkR s1).2.2.1, cr := (chkR s1).2.2.2.1, cs := (chkR s1).2.2.2.2 }, noHd, [], [], rfl, fun _ => rfl, fun w'' _ => mem_none _ w'' rfl rfl, L2, hQ, by simpa using hS.fr (List.Sublist.refl _)⟩
set_option maxHeartbeats 4000000 in
theorem rec8k8_c (bd bq : Nat) (S : List UInt8) (s : RS) (L : LM) (hQ : Q8 bd bq S s L) (hs : S.length ≤ 4611686018427387904) (w : World) (hS : St (keys L) w w L) (hk : numW 1 s = 8) :
    Fc Tryz.prog 32 [.pointer (some ⟨bd, 0, none⟩)] w (Got8 bd bq S s (keys L) w) := by
  have hq8 := wr8 s
  have h1 : oneR s = bodyR (numW 1 s) (aftW 1 s) := rfl
  unfold Got8
  rw [h1, bodyR8 _ hk]
  clear h1
  have hn1 := fun w' => num8_c bd bq S s L hQ hs 1 (by decide) w'
  generalize numW 1 s = k at *
  generalize aftW 1 s = s1 at *
  have g1 : (IntKind.u8.wrap k == 1) = false := by rw [hq8]; rw [hk]; rfl
  have g2 : (IntKind.u8.wrap k == 2) = false := by rw [hq8]; rw [hk]; rfl
  have g3 : (IntKind.u8.wrap k == 3) = false := by rw [hq8]; rw [hk]; rfl
  have g4 : (IntKind.u8.wrap k == 4) = false := by rw [hq8]; rw [hk]; rfl
  have g5 : (IntKind.u8.wrap k == 5) = false := by rw [hq8]; rw [hk]; rfl
  have g6 : (IntKind.u8.wrap k == 6) = false := by rw [hq8]; rw [hk]; rfl
  have g7 : (IntKind.u8.wrap k == 7) = false := by rw [hq8]; rw [hk]; rfl
  have g8 : (IntKind.u8.wrap k == 8) = true := by rw [hq8]; rw [hk]; rfl
  refine fc_i TB_ok Tryz.func32 rfl (by kernel_rfl) ?_
  have hS : Sf (keys L) w w (L ++ []) [] := ⟨by simpa using hS⟩
  clear hQ
  repeat ((conv => whnf); first | (apply q_i; focus (intro w1 hS; (conv => whnf); first | exact ⟨rfl, rfl⟩ | ((first | refine ld_f hS 0 rfl rfl ?_ | refine ldA_f hS 0 rfl rfl ?_); (conv => whnf); exact ⟨rfl, rfl⟩))) | (refine nw_f hS ?_; intro b w1 hS) | refine as_i hS ?_ | refine as_i (hS.subs (List.nil_sublist _) sb9) ?_ | refine as_i (hS.subs (List.Sublist.refl _) sb9) ?_ | refine bar_f hS ?_ | refine ld_f hS 0 rfl rfl ?_ | refine ldA_f hS 0 rfl rfl ?_ | ((first | refine stN_f hS 0 rfl (lb9 rfl) rfl rfl ?_ | refine stM_f hS 0 rfl (lb9 rfl) rfl ?_); (conv => whnf); intro w1 hS) | (refine dr9 hS ?_; intro w1 hS) | refine br_t (by assumption) ?_ | refine br_f (by assumption) ?_)
  refine fc_m (hn1 _ hS.ownF) ?_
  rintro v w1 ⟨rfl, L1, hQ, hS'⟩
  replace hS := hS.callW hS'
  repeat ((conv => whnf); first | (apply q_i; focus (intro w1 hS; (conv => whnf); first | exact ⟨rfl, rfl⟩ | ((first | refine ld_f hS 0 rfl rfl ?_ | refine ld_f hS 1 rfl rfl ?_ | refine ldA_f hS 0 rfl rfl ?_ | refine ldA_f hS 1 rfl rfl ?_); (conv => whnf); exact ⟨rfl, rfl⟩) | ((refine ldN_f hS 0 rfl (lb9 rfl) ?_); (conv => whnf); exact ⟨rfl, rfl⟩) | ((refine ldN_f hS 1 rfl (lb9 rfl) ?_); (conv => whnf); exact ⟨rfl, rfl⟩) | ((refine ldN_f hS 2 rfl (lb9 rfl) ?_); (conv => whnf); exact ⟨rfl, rfl⟩) | ((refine .mk ⟨by omega, by omega⟩ ?_); (conv => whnf); exact ⟨rfl, rfl⟩))) | (refine nw_f hS ?_; intro b w1 hS) | refine as_i hS ?_ | refine as_i (hS.subs (List.nil_sublist _) sb9) ?_ | refine as_i (hS.subs (List.Sublist.refl _) sb9) ?_ | refine bar_f hS ?_ | refine ld_f hS 0 rfl rfl ?_ | refine ld_f hS 1 rfl rfl ?_ | refine ldA_f hS 0 rfl rfl ?_ | refine ldA_f hS 1 rfl rfl ?_ | ((first | refine stN_f hS 0 rfl (lb9 rfl) rfl rfl ?_ | refine stN_f hS 1 rfl (lb9 rfl) rfl rfl ?_ | refine stM_f hS 0 rfl (lb9 rfl) rfl ?_ | refine stM_f hS 1 rfl (lb9 rfl) rfl ?_); (conv => whnf); intro w1 hS) | refine ldN_f hS 0 rfl (lb9 rfl) ?_ | refine ldN_f hS 1 rfl (lb9 rfl) ?_ | refine ldN_f hS 2 rfl (lb9 rfl) ?_ | refine .mk ⟨by omega, by omega⟩ ?_ | (refine dr9 hS ?_; intro w1 hS) | refine br_t (by assumption) ?_ | refine br_f (by assumption) ?_)
  (conv => whnf)
  refine fc_m (num8_c bd bq S _ _ hQ hs 1 (by decide) _ hS.ownF) ?_
  rintro v w3 ⟨rfl, L2, hQ, hS'⟩
  replace hS := hS.callW hS'
  repeat ((conv => whnf); first | (apply q_i; focus (intro w1 hS; (conv => whnf); first | exact ⟨rfl, rfl⟩ | ((first | refine ld_f hS 0 rfl rfl ?_ | refine ld_f hS 1 rfl rfl ?_ | refine ldA_f hS 0 rfl rfl ?_ | refine ldA_f hS 1 rfl rfl ?_); (conv => whnf); exact ⟨rfl, rfl⟩) | ((refine ldN_f hS 0 rfl (lb9 rfl) ?_); (conv => whnf); exact ⟨rfl, rfl⟩) | ((refine ldN_f hS 1 rfl (lb9 rfl) ?_); (conv => whnf); exact ⟨rfl, rfl⟩) | ((refine ldN_f hS 2 rfl (lb9 rfl) ?_); (conv => whnf); exact ⟨rfl, rfl⟩) | ((refine .mk ⟨by omega, by omega⟩ ?_); (conv => whnf); exact ⟨rfl, rfl⟩))) | (refine nw_f hS ?_; intro b w1 hS) | refine as_i hS ?_ | refine as_i (hS.subs (List.nil_sublist _) sb9) ?_ | refine as_i (hS.subs (List.Sublist.refl _) sb9) ?_ | refine bar_f hS ?_ | refine ld_f hS 0 rfl rfl ?_ | refine ld_f hS 1 rfl rfl ?_ | refine ldA_f hS 0 rfl rfl ?_ | refine ldA_f hS 1 rfl rfl ?_ | ((first | refine stN_f hS 0 rfl (lb9 rfl) rfl rfl ?_ | refine stN_f hS 1 rfl (lb9 rfl) rfl rfl ?_ | refine stM_f hS 0 rfl (lb9 rfl) rfl ?_ | refine stM_f hS 1 rfl (lb9 rfl) rfl ?_); (conv => whnf); intro w1 hS) | refine ldN_f hS 0 rfl (lb9 rfl) ?_ | refine ldN_f hS 1 rfl (lb9 rfl) ?_ | refine ldN_f hS 2 rfl (lb9 rfl) ?_ | refine .mk ⟨by omega, by omega⟩ ?_ | (refine dr9 hS ?_; intro w1 hS) | refine br_t (by assumption) ?_ | refine br_f (by assumption) ?_)
  (conv => whnf)
  refine fc_m (text8_c bd bq S _ _ hQ hs _ hS.ownF) ?_
  rintro v w3 ⟨rfl, L2, hQ, hS'⟩
  replace hS := hS.callW hS'
  repeat ((conv => whnf); first | (apply q_i; focus (intro w1 hS; (conv => whnf); first | exact ⟨rfl, rfl⟩ | ((first | refine ld_f hS 0 rfl rfl ?_ | refine ld_f hS 1 rfl rfl ?_ | refine ldA_f hS 0 rfl rfl ?_ | refine ldA_f hS 1 rfl rfl ?_); (conv => whnf); exact ⟨rfl, rfl⟩) | ((refine ldN_f hS 0 rfl (lb9 rfl) ?_); (conv => whnf); exact ⟨rfl, rfl⟩) | ((refine ldN_f hS 1 rfl (lb9 rfl) ?_); (conv => whnf); exact ⟨rfl, rfl⟩) | ((refine ldN_f hS 2 rfl (lb9 rfl) ?_); (conv => whnf); exact ⟨rfl, rfl⟩) | ((refine .mk ⟨by omega, by omega⟩ ?_); (conv => whnf); exact ⟨rfl, rfl⟩))) | (refine nw_f hS ?_; intro b w1 hS) | refine as_i hS ?_ | refine as_i (hS.subs (List.nil_sublist _) sb9) ?_ | refine as_i (hS.subs (List.Sublist.refl _) sb9) ?_ | refine bar_f hS ?_ | refine ld_f hS 0 rfl rfl ?_ | refine ld_f hS 1 rfl rfl ?_ | refine ldA_f hS 0 rfl rfl ?_ | refine ldA_f hS 1 rfl rfl ?_ | ((first | refine stN_f hS 0 rfl (lb9 rfl) rfl rfl ?_ | refine stN_f hS 1 rfl (lb9 rfl) rfl rfl ?_ | refine stM_f hS 0 rfl (lb9 rfl) rfl ?_ | refine stM_f hS 1 rfl (lb9 rfl) rfl ?_); (conv => whnf); intro w1 hS) | refine ldN_f hS 0 rfl (lb9 rfl) ?_ | refine ldN_f hS 1 rfl (lb9 rfl) ?_ | refine ldN_f hS 2 rfl (lb9 rfl) ?_ | refine .mk ⟨by omega, by omega⟩ ?_ | (refine dr9 hS ?_; intro w1 hS) | refine br_t (by assumption) ?_ | refine br_f (by assumption) ?_)
  (conv => whnf)
  refine fc_m (vector8_c bd bq S _ _ hQ hs _ hS.ownF) ?_
  rintro v w3 ⟨rfl, L2, hQ, hS'⟩
  replace hS := hS.callW hS'
  repeat ((conv => whnf); first | (apply q_i; focus (intro w1 hS; (conv => whnf); first | exact ⟨rfl, rfl⟩ | ((first | refine ld_f hS 0 rfl rfl ?_ | refine ld_f hS 1 rfl rfl ?_ | refine ldA_f hS 0 rfl rfl ?_ | refine ldA_f hS 1 rfl rfl ?_); (conv => whnf); exact ⟨rfl, rfl⟩) | ((refine ldN_f hS 0 rfl (lb9 rfl) ?_); (conv => whnf); exact ⟨rfl, rfl⟩) | ((refine ldN_f hS 1 rfl (lb9 rfl) ?_); (conv => whnf); exact ⟨rfl, rfl⟩) | ((refine ldN_f hS 2 rfl (lb9 rfl) ?_); (conv => whnf); exact ⟨rfl, rfl⟩) | ((refine .mk ⟨by omega, by omega⟩ ?_); (conv => whnf); exact ⟨rfl, rfl⟩))) | (refine nw_f hS ?_; intro b w1 hS) | refine as_i hS ?_ | refine as_i (hS.subs (List.nil_sublist _) sb9) ?_ | refine as_i (hS.subs (List.Sublist.refl _) sb9) ?_ | refine bar_f hS ?_ | refine ld_f hS 0 rfl rfl ?_ | refine ld_f hS 1 rfl rfl ?_ | refine ldA_f hS 0 rfl rfl ?_ | refine ldA_f hS 1 rfl rfl ?_ | ((first | refine stN_f hS 0 rfl (lb9 rfl) rfl rfl ?_ | refine stN_f hS 1 rfl (lb9 rfl) rfl rfl ?_ | refine stM_f hS 0 rfl (lb9 rfl) rfl ?_ | refine stM_f hS 1 rfl (lb9 rfl) rfl ?_); (conv => whnf); intro w1 hS) | refine ldN_f hS 0 rfl (lb9 rfl) ?_ | refine ldN_f hS 1 rfl (lb9 rfl) ?_ | refine ldN_f hS 2 rfl (lb9 rfl) ?_ | refine .mk ⟨by omega, by omega⟩ ?_ | (refine dr9 hS ?_; intro w1 hS) | refine br_t (by assumption) ?_ | refine br_f (by assumption) ?_)
  rw [hq8, wr8]
  exact ⟨{ zeroRx k with r := numW 1 s1, p := (pthR (aftW 1 s1)).2, g := (vecR (pthR (aftW 1 s1)).1).2 }, noHd, [], [], rfl, fun _ => rfl, fun w'' _ => mem_none _ w'' rfl rfl, L2, hQ, by simpa using hS.fr (List.Sublist.refl _)⟩
end Go.RV

set_option maxRecDepth 20000
set_option linter.unusedVariables false
set_option linter.unusedSimpArgs false
namespace Go.RV
open Go Go.Proofs Go.RowKit

theorem rec8k9_c (bd bq : Nat) (S : List UInt8) (s : RS) (L : LM) (hQ : Q8 bd bq S s L) (hs : S.length ≤ 4611686018427387904) (w : World) (hS : St (keys L) w w L) (hk : numW 1 s ≠ 1 ∧ numW 1 s ≠ 2 ∧ numW 1 s ≠ 3 ∧ numW 1 s ≠ 4 ∧ numW 1 s ≠ 5 ∧ numW 1 s ≠ 6 ∧ numW 1 s ≠ 7 ∧ numW 1 s ≠ 8) :
    Fc Tryz.prog 32 [.pointer (some ⟨bd, 0, none⟩)] w (Got8 bd bq S s (keys L) w) := by
  have hq8 := wr8 s
  have h1 : oneR s = bodyR (numW 1 s) (aftW 1 s) := rfl
  unfold Got8
  rw [h1, bodyR9 _ hk]
  clear h1
  have hn1 := fun w' => num8_c bd bq S s L hQ hs 1 (by decide) w'
  generalize numW 1 s = k at *
  generalize aftW 1 s = s1 at *
  have g1 : (IntKind.u8.wrap k == 1) = false := by rw [hq8]; simp; omega
  have g2 : (IntKind.u8.wrap k == 2) = false := by rw [hq8]; simp; omega
  have g3 : (IntKind.u8.wrap k == 3) = false := by rw [hq8]; simp; omega
  have g4 : (IntKind.u8.wrap k == 4) = false := by rw [hq8]; simp; omega
  have g5 : (IntKind.u8.wrap k == 5) = false := by rw [hq8]; simp; omega
  have g6 : (IntKind.u8.wrap k == 6) = false := by rw [hq8]; simp; omega
  have g7 : (IntKind.u8.wrap k == 7) = false := by rw [hq8]; simp; omega
  have g8 : (IntKind.u8.wrap k == 8) = false := by rw [hq8]; simp; omega
  refine fc_i TB_ok Tryz.func32 rfl (by kernel_rfl) ?_
  have hS : Sf (keys L) w w (L ++ []) [] := ⟨by simpa using hS⟩
  clear hQ
  repeat ((conv => whnf); first | (apply q_i; focus (intro w1 hS; (conv => whnf); first | exact ⟨rfl, rfl⟩ | ((first | refine ld_f hS 0 rfl rfl ?_ | refine ldA_f hS 0 rfl rfl ?_); (conv => whnf); exact ⟨rfl, rfl⟩))) | (refine nw_f hS ?_; intro b w1 hS) | refine as_i hS ?_ | refine as_i (hS.subs (List.nil_sublist _) sb9) ?_ | refine as_i (hS.subs (List.Sublist.refl _) sb9) ?_ | refine bar_f hS ?_ | refine ld_f hS 0 rfl rfl ?_ | refine ldA_f hS 0 rfl rfl ?_ | ((first | refine stN_f hS 0 rfl (lb9 rfl) rfl rfl ?_ | refine stM_f hS 0 rfl (lb9 rfl) rfl ?_); (conv => whnf); intro w1 hS) | (refine dr9 hS ?_; intro w1 hS) | refine br_t (by assumption) ?_ | refine br_f (by assumption) ?_)
  refine fc_m (hn1 _ hS.ownF) ?_
  rintro v w1 ⟨rfl, L1, hQ, hS'⟩
  replace hS := hS.callW hS'
  obtain ⟨q, Lq, hQq, hq, rfl⟩ := hQ.out
  repeat ((conv => whnf); first | (apply q_i; focus (intro w1 hS; (conv => whnf); first | exact ⟨rfl, rfl⟩ | ((first | refine ld_f hS 0 rfl rfl ?_ | refine ld_f hS 1 rfl rfl ?_ | refine ldA_f hS 0 rfl rfl ?_ | refine ldA_f hS 1 rfl rfl ?_); (conv => whnf); exact ⟨rfl, rfl⟩) | ((refine ldN_f hS 0 rfl (lb9 rfl) ?_); (conv => whnf); exact ⟨rfl, rfl⟩) | ((refine ldN_f hS 1 rfl (lb9 rfl) ?_); (conv => whnf); exact ⟨rfl, rfl⟩) | ((refine ldN_f hS 2 rfl (lb9 rfl) ?_); (conv => whnf); exact ⟨rfl, rfl⟩))) | (refine nw_f hS ?_; intro b w1 hS) | refine as_i hS ?_ | refine as_i (hS.subs (List.nil_sublist _) sb9) ?_ | refine as_i (hS.subs (List.Sublist.refl _) sb9) ?_ | refine bar_f hS ?_ | refine ld_f hS 0 rfl rfl ?_ | refine ld_f hS 1 rfl rfl ?_ | refine ldA_f hS 0 rfl rfl ?_ | refine ldA_f hS 1 rfl rfl ?_ | ((first | refine stN_f hS 0 rfl (lb9 rfl) rfl rfl ?_ | refine stN_f hS 1 rfl (lb9 rfl) rfl rfl ?_ | refine stM_f hS 0 rfl (lb9 rfl) rfl ?_ | refine stM_f hS 1 rfl (lb9 rfl) rfl ?_); (conv => whnf); intro w1 hS) | refine ldN_f hS 0 rfl (lb9 rfl) ?_ | refine ldN_f hS 1 rfl (lb9 rfl) ?_ | refine ldN_f hS 2 rfl (lb9 rfl) ?_ | (refine dr9 hS ?_; intro w1 hS) | refine br_t (by assumption) ?_ | refine br_f (by assumption) ?_)
  replace hS : Sf (keys L) w _ (Lq ++ []) [(bd, .cells (qr8L bq s1.e).toArray 88 (0, 0)), (_, .cells (recL (zeroRx (IntKind.u8.wrap k)) noHd).toArray 63 (0, 0)), _] := hS.out8
  by_cases he : s1.e = 0
  · have ge : (s1.e == 0) = true := by simp [he]
    repeat ((conv => whnf); first | (apply q_i; focus (intro w1 hS; (conv => whnf); first | exact ⟨rfl, rfl⟩ | ((first | refine ld_f hS 0 rfl rfl ?_ | refine ld_f hS 1 rfl rfl ?_ | refine ld_f hS 2 rfl rfl ?_ | refine ldA_f hS 0 rfl rfl ?_ | refine ldA_f hS 1 rfl rfl ?_ | refine ldA_f hS 2 rfl rfl ?_); (conv => whnf); exact ⟨rfl, rfl⟩) | ((refine ldN_f hS 0 rfl (lb9 rfl) ?_); (conv => whnf); exact ⟨rfl, rfl⟩) | ((refine ldN_f hS 1 rfl (lb9 rfl) ?_); (conv => whnf); exact ⟨rfl, rfl⟩) | ((refine ldN_f hS 2 rfl (lb9 rfl) ?_); (conv => whnf); exact ⟨rfl, rfl⟩))) | (refine nw_f hS ?_; intro b w1 hS) | refine as_i hS ?_ | refine as_i (hS.subs (List.nil_sublist _) sb9) ?_ | refine as_i (hS.subs (List.Sublist.refl _) sb9) ?_ | refine bar_f hS ?_ | refine ld_f hS 0 rfl rfl ?_ | refine ld_f hS 1 rfl rfl ?_ | refine ld_f hS 2 rfl rfl ?_ | refine ldA_f hS 0 rfl rfl ?_ | refine ldA_f hS 1 rfl rfl ?_ | refine ldA_f hS 2 rfl rfl ?_ | ((first | refine stN_f hS 0 rfl (lb9 rfl) rfl rfl ?_ | refine stN_f hS 1 rfl (lb9 rfl) rfl rfl ?_ | refine stN_f hS 2 rfl (lb9 rfl) rfl rfl ?_ | refine stM_f hS 0 rfl (lb9 rfl) rfl ?_ | refine stM_f hS 1 rfl (lb9 rfl) rfl ?_ | refine stM_f hS 2 rfl (lb9 rfl) rfl ?_); (conv => whnf); intro w1 hS) | refine ldN_f hS 0 rfl (lb9 rfl) ?_ | refine ldN_f hS 1 rfl (lb9 rfl) ?_ | refine ldN_f hS 2 rfl (lb9 rfl) ?_ | (refine dr9 hS ?_; intro w1 hS) | refine br_t (by assumption) ?_ | refine br_f (by assumption) ?_)
    rw [hq8, if_neg (by rw [he]; decide)]
    replace hS : Sf (keys L) w _ (((bd, qr8O bq 4) :: Lq) ++ []) _ := hS.in8
    exact ⟨zeroRx k, noHd, [], [], rfl, fun _ => rfl, fun w'' _ => mem_none _ w'' rfl rfl, _, ⟨q, Lq, hQq, fun h => absurd (show (4 : Int) = 0 from h) (by decide), rfl⟩, by simpa using hS.fr (List.Sublist.refl _)⟩
  · have ge : (s1.e == 0) = false := by simp [he]
    repeat ((conv => whnf); first | (apply q_i; focus (intro w1 hS; (conv => whnf); first | exact ⟨rfl, rfl⟩ | ((first | refine ld_f hS 0 rfl rfl ?_ | refine ld_f hS 1 rfl rfl ?_ | refine ld_f hS 2 rfl rfl ?_ | refine ldA_f hS 0 rfl rfl ?_ | refine ldA_f hS 1 rfl rfl ?_ | refine ldA_f hS 2 rfl rfl ?_); (conv => whnf); exact ⟨rfl, rfl⟩) | ((refine ldN_f hS 0 rfl (lb9 rfl) ?_); (conv => whnf); exact ⟨rfl, rfl⟩) | ((refine ldN_f hS 1 rfl (lb9 rfl) ?_); (conv => whnf); exact ⟨rfl, rfl⟩) | ((refine ldN_f hS 2 rfl (lb9 rfl) ?_); (conv => whnf); exact ⟨rfl, rfl⟩))) | (refine nw_f hS ?_; intro b w1 hS) | refine as_i hS ?_ | refine as_i (hS.subs (List.nil_sublist _) sb9) ?_ | refine as_i (hS.subs (List.Sublist.refl _) sb9) ?_ | refine bar_f hS ?_ | refine ld_f hS 0 rfl rfl ?_ | refine ld_f hS 1 rfl rfl ?_ | refine ld_f hS 2 rfl rfl ?_ | refine ldA_f hS 0 rfl rfl ?_ | refine ldA_f hS 1 rfl rfl ?_ | refine ldA_f hS 2 rfl rfl ?_ | ((first | refine stN_f hS 0 rfl (lb9 rfl) rfl rfl ?_ | refine stN_f hS 1 rfl (lb9 rfl) rfl rfl ?_ | refine stN_f hS 2 rfl (lb9 rfl) rfl rfl ?_ | refine stM_f hS 0 rfl (lb9 rfl) rfl ?_ | refine stM_f hS 1 rfl (lb9 rfl) rfl ?_ | refine stM_f hS 2 rfl (lb9 rfl) rfl ?_); (conv => whnf); intro w1 hS) | refine ldN_f hS 0 rfl (lb9 rfl) ?_ | refine ldN_f hS 1 rfl (lb9 rfl) ?_ | refine ldN_f hS 2 rfl (lb9 rfl) ?_ | (refine dr9 hS ?_; intro w1 hS) | refine br_t (by assumption) ?_ | refine br_f (by assumption) ?_)
    rw [hq8, if_pos he]
    replace hS : Sf (keys L) w _ (((bd, qr8O bq s1.e) :: Lq) ++ []) _ := hS.in8
    exact ⟨zeroRx k, noHd, [], [], rfl, fun _ => rfl, fun w'' _ => mem_none _ w'' rfl rfl, _, ⟨q, Lq, hQq, hq, rfl⟩, by simpa using hS.fr (List.Sublist.refl _)⟩
theorem Q8.err {bd bq : Nat} {S : List UInt8} {s s' : RS} {L : LM} (h : Q8 bd bq S s L) (he : s.e ≠ 0) (h2 : s'.e = s.e) : Q8 bd bq S s' L := by
  obtain ⟨q, Lq, h1, h3, rfl⟩ := h.out
  exact ⟨q, Lq, h1, fun h => absurd (h2 ▸ h) he, by rw [h2]⟩
section
variable {M : List Nat} {w0 w : World} {F r : LM} {a b : Nat × Obj}
theorem Sf.sw8 (h : Sf M w0 w F (a :: b :: r)) : Sf M w0 w F (b :: a :: r) := ⟨h.st.perm (pc fun u => by simp only [List.count_append, List.count_cons]; omega)⟩
end
set_option maxHeartbeats 8000000 in
theorem rec8k4_c (bd bq : Nat) (S : List UInt8) (s : RS) (L : LM) (hQ : Q8 bd bq S s L) (hs : S.length ≤ 4611686018427387904) (w : World) (hS : St (keys L) w w L) (hk : numW 1 s = 4) :
    Fc Tryz.prog 32 [.pointer (some ⟨bd, 0, none⟩)] w (Got8 bd bq S s (keys L) w) := by
  have hq8 := wr8 s
  have h1 : oneR s = bodyR (numW 1 s) (aftW 1 s) := rfl
  unfold Got8
  rw [h1, bodyR4 _ hk]
  clear h1
  have hn1 := fun w' => num8_c bd bq S s L hQ hs 1 (by decide) w'
  generalize numW 1 s = k at *
  generalize aftW 1 s = s1 at *
  have g1 : (IntKind.u8.wrap k == 1) = false := by rw [hq8]; rw [hk]; rfl
  have g2 : (IntKind.u8.wrap k == 2) = false := by rw [hq8]; rw [hk]; rfl
  have g3 : (IntKind.u8.wrap k == 3) = false := by rw [hq8]; rw [hk]; rfl
  have g4 : (IntKind.u8.wrap k == 4) = true := by rw [hq8]; rw [hk]; rfl
  have g5 : (IntKind.u8.wrap k == 5) = false := by rw [hq8]; rw [hk]; rfl
  have g6 : (IntKind.u8.wrap k == 6) = false := by rw [hq8]; rw [hk]; rfl
  have g7 : (IntKind.u8.wrap k == 7) = false := by rw [hq8]; rw [hk]; rfl
  have g8 : (IntKind.u8.wrap k == 8) = false := by rw [hq8]; rw [hk]; rfl
  refine fc_i TB_ok Tryz.func32 rfl (by kernel_rfl) ?_
  have hS : Sf (keys L) w w (L ++ []) [] := ⟨by simpa using hS⟩
  clear hQ
  repeat ((conv => whnf); first | (apply q_i; focus (intro w1 hS; (conv => whnf); first | exact ⟨rfl, rfl⟩ | ((first | refine ld_f hS 0 rfl rfl ?_ | refine ldA_f hS 0 rfl rfl ?_); (conv => whnf); exact ⟨rfl, rfl⟩))) | (refine nw_f hS ?_; intro b w1 hS) | refine as_i hS ?_ | refine as_i (hS.subs (List.nil_sublist _) sb9) ?_ | refine as_i (hS.subs (List.Sublist.refl _) sb9) ?_ | refine bar_f hS ?_ | refine ld_f hS 0 rfl rfl ?_ | refine ldA_f hS 0 rfl rfl ?_ | ((first | refine stN_f hS 0 rfl (lb9 rfl) rfl rfl ?_ | refine stM_f hS 0 rfl (lb9 rfl) rfl ?_); (conv => whnf); intro w1 hS) | (refine dr9 hS ?_; intro w1 hS) | refine br_t (by assumption) ?_ | refine br_f (by assumption) ?_)
  refine fc_m (hn1 _ hS.ownF) ?_
  rintro v w1 ⟨rfl, L1, hQ, hS'⟩
  replace hS := hS.callW hS'
  repeat ((conv => whnf); first | (apply q_i; focus (intro w1 hS; (conv => whnf); first | exact ⟨rfl, rfl⟩ | ((first | refine ld_f hS 0 rfl rfl ?_ | refine ld_f hS 1 rfl rfl ?_ | refine ldA_f hS 0 rfl rfl ?_ | refine ldA_f hS 1 rfl rfl ?_); (conv => whnf); exact ⟨rfl, rfl⟩) | ((refine ldN_f hS 0 rfl (lb9 rfl) ?_); (conv => whnf); exact ⟨rfl, rfl⟩) | ((refine ldN_f hS 1 rfl (lb9 rfl) ?_); (conv => whnf); exact ⟨rfl, rfl⟩) | ((refine ldN_f hS 2 rfl (lb9 rfl) ?_); (conv => whnf); exact ⟨rfl, rfl⟩))) | (refine nw_f hS ?_; intro b w1 hS) | refine as_i hS ?_ | refine as_i (hS.subs (List.nil_sublist _) sb9) ?_ | refine as_i (hS.subs (List.Sublist.refl _) sb9) ?_ | refine bar_f hS ?_ | refine ld_f hS 0 rfl rfl ?_ | refine ld_f hS 1 rfl rfl ?_ | refine ldA_f hS 0 rfl rfl ?_ | refine ldA_f hS 1 rfl rfl ?_ | ((first | refine stN_f hS 0 rfl (lb9 rfl) rfl rfl ?_ | refine stN_f hS 1 rfl (lb9 rfl) rfl rfl ?_ | refine stM_f hS 0 rfl (lb9 rfl) rfl ?_ | refine stM_f hS 1 rfl (lb9 rfl) rfl ?_); (conv => whnf); intro w1 hS) | refine ldN_f hS 0 rfl (lb9 rfl) ?_ | refine ldN_f hS 1 rfl (lb9 rfl) ?_ | refine ldN_f hS 2 rfl (lb9 rfl) ?_ | (refine dr9 hS ?_; intro w1 hS) | refine br_t (by assumption) ?_ | refine br_f (by assumption) ?_)
  (conv => whnf)
  refine fc_m (text8_c bd bq S _ _ hQ hs _ hS.ownF) ?_
  rintro v w2 ⟨rfl, L2, hQ, hS'⟩
  replace hS := hS.callW hS'
  repeat ((conv => whnf); first | (apply q_i; focus (intro w1 hS; (conv => whnf); first | exact ⟨rfl, rfl⟩ | ((first | refine ld_f hS 0 rfl rfl ?_ | refine ld_f hS 1 rfl rfl ?_ | refine ldA_f hS 0 rfl rfl ?_ | refine ldA_f hS 1 rfl rfl ?_); (conv => whnf); exact ⟨rfl, rfl⟩) | ((refine ldN_f hS 0 rfl (lb9 rfl) ?_); (conv => whnf); exact ⟨rfl, rfl⟩) | ((refine ldN_f hS 1 rfl (lb9 rfl) ?_); (conv => whnf); exact ⟨rfl, rfl⟩) | ((refine ldN_f hS 2 rfl (lb9 rfl) ?_); (conv => whnf); exact ⟨rfl, rfl⟩))) | (refine nw_f hS ?_; intro b w1 hS) | refine as_i hS ?_ | refine as_i (hS.subs (List.nil_sublist _) sb9) ?_ | refine as_i (hS.subs (List.Sublist.refl _) sb9) ?_ | refine bar_f hS ?_ | refine ld_f hS 0 rfl rfl ?_ | refine ld_f hS 1 rfl rfl ?_ | refine ldA_f hS 0 rfl rfl ?_ | refine ldA_f hS 1 rfl rfl ?_ | ((first | refine stN_f hS 0 rfl (lb9 rfl) rfl rfl ?_ | refine stN_f hS 1 rfl (lb9 rfl) rfl rfl ?_ | refine stM_f hS 0 rfl (lb9 rfl) rfl ?_ | refine stM_f hS 1 rfl (lb9 rfl) rfl ?_); (conv => whnf); intro w1 hS) | refine ldN_f hS 0 rfl (lb9 rfl) ?_ | refine ldN_f hS 1 rfl (lb9 rfl) ?_ | refine ldN_f hS 2 rfl (lb9 rfl) ?_ | (refine dr9 hS ?_; intro w1 hS) | refine br_t (by assumption) ?_ | refine br_f (by assumption) ?_)
  (conv => whnf)
  refine fc_m (vector8_c bd bq S _ _ hQ hs _ hS.ownF) ?_
  rintro v w3 ⟨rfl, L3, hQ, hS'⟩
  replace hS := hS.callW hS'
  have hr : regR (pthR s1).1 = ((sbsR (aftW 1 (vecR (pthR s1).1).1) (numW 1 (vecR (pthR s1).1).1).toNat).1, (vecR (pthR s1).1).2, (sbsR (aftW 1 (vecR (pthR s1).1).1) (numW 1 (vecR (pthR s1).1).1).toNat).2) := rfl
  rw [hr]
  clear hr
  repeat ((conv => whnf); first | (apply q_i; focus (intro w1 hS; (conv => whnf); first | exact ⟨rfl, rfl⟩ | ((first | refine ld_f hS 0 rfl rfl ?_ | refine ld_f hS 1 rfl rfl ?_ | refine ldA_f hS 0 rfl rfl ?_ | refine ldA_f hS 1 rfl rfl ?_); (conv => whnf); exact ⟨rfl, rfl⟩) | ((refine ldN_f hS 0 rfl (lb9 rfl) ?_); (conv => whnf); exact ⟨rfl, rfl⟩) | ((refine ldN_f hS 1 rfl (lb9 rfl) ?_); (conv => whnf); exact ⟨rfl, rfl⟩) | ((refine ldN_f hS 2 rfl (lb9 rfl) ?_); (conv => whnf); exact ⟨rfl, rfl⟩))) | (refine nw_f hS ?_; intro b w1 hS) | refine as_i hS ?_ | refine as_i (hS.subs (List.nil_sublist _) sb9) ?_ | refine as_i (hS.subs (List.Sublist.refl _) sb9) ?_ | refine bar_f hS ?_ | refine ld_f hS 0 rfl rfl ?_ | refine ld_f hS 1 rfl rfl ?_ | refine ldA_f hS 0 rfl rfl ?_ | refine ldA_f hS 1 rfl rfl ?_ | ((first | refine stN_f hS 0 rfl (lb9 rfl) rfl rfl ?_ | refine stN_f hS 1 rfl (lb9 rfl) rfl rfl ?_ | refine stM_f hS 0 rfl (lb9 rfl) rfl ?_ | refine stM_f hS 1 rfl (lb9 rfl) rfl ?_); (conv => whnf); intro w1 hS) | refine ldN_f hS 0 rfl (lb9 rfl) ?_ | refine ldN_f hS 1 rfl (lb9 rfl) ?_ | refine ldN_f hS 2 rfl (lb9 rfl) ?_ | (refine dr9 hS ?_; intro w1 hS) | refine br_t (by assumption) ?_ | refine br_f (by assumption) ?_)
  (conv => whnf)
  refine fc_m (num8_c bd bq S _ _ hQ hs 1 (by decide) _ hS.ownF) ?_
  rintro v w4 ⟨rfl, L4, hQ, hS'⟩
  replace hS := hS.callW hS'
  have hwn := wr1 (vecR (pthR s1).1).1
  have hn := numW_lt 1 (vecR (pthR s1).1).1
  generalize (vecR (pthR s1).1).2 = f at *
  generalize aftW 1 (vecR (pthR s1).1).1 = s2 at *
  generalize numW 1 (vecR (pthR s1).1).1 = n0 at *
  obtain ⟨n, rfl⟩ : ∃ n : Nat, n0 = n := ⟨n0.toNat, by omega⟩
  have hn8 : n ≤ 255 := by have := hn.2; omega
  simp only [Int.toNat_natCast]
  repeat ((conv => whnf); first | (apply q_i; focus (intro w1 hS; (conv => whnf); first | exact ⟨rfl, rfl⟩ | ((first | refine ld_f hS 0 rfl rfl ?_ | refine ld_f hS 1 rfl rfl ?_ | refine ldA_f hS 0 rfl rfl ?_ | refine ldA_f hS 1 rfl rfl ?_); (conv => whnf); exact ⟨rfl, rfl⟩))) | (refine nw_f hS ?_; intro b w1 hS) | refine as_i hS ?_ | refine as_i (hS.subs (List.nil_sublist _) sb9) ?_ | refine as_i (hS.subs (List.Sublist.refl _) sb9) ?_ | refine bar_f hS ?_ | refine ld_f hS 0 rfl rfl ?_ | refine ld_f hS 1 rfl rfl ?_ | refine ldA_f hS 0 rfl rfl ?_ | refine ldA_f hS 1 rfl rfl ?_ | ((first | refine stN_f hS 0 rfl (lb9 rfl) rfl rfl ?_ | refine stN_f hS 1 rfl (lb9 rfl) rfl rfl ?_ | refine stM_f hS 0 rfl (lb9 rfl) rfl ?_ | refine stM_f hS 1 rfl (lb9 rfl) rfl ?_); (conv => whnf); intro w1 hS) | (refine dr9 hS ?_; intro w1 hS) | refine br_t (by assumption) ?_ | refine br_f (by assumption) ?_)
  rw [hq8] at hS
  replace hS : Sf (keys L) w _ (L4 ++ ([] ++ ([] ++ []))) [(_, .cells (recL0 { zeroRx k with p := (pthR s1).2, f := f } none 0 0 none 0).toArray 63 (0, 0)), _] := hS
  refine loop_i TB_ok (fun i : Nat => [(5, .int .i64 i)]) (fun i w' => i ≤ n ∧ ∃ st B d ms Lq Lx Li, Q8 bd bq S st Lq ∧ (st.e = 0 → (sbsR s2 i).1 = st ∧ (sbsR s2 i).2 = ms.map Sm.s) ∧ (st.e ≠ 0 → (sbsR s2 n).1.e = st.e) ∧ ms.length ≤ i ∧ (∀ w'', Holds w'' Li → ∀ m ∈ ms, Rd w'' m.A (flat encU m.s.v.ks)) ∧
    Sl 104 5 (.slice B ms.length d) ms.length (flat encM ms) Lx ∧ Sf (keys L) w w' (Lq ++ (Lx ++ (Li ++ []))) [(_, .cells (recL0 { zeroRx k with p := (pthR s1).2, f := f } B ms.length d none 0).toArray 63 (0, 0)), _]) (fun i => n - i) 0 rfl ⟨Nat.zero_le _, s2, none, 0, [], L4, [], [], hQ, fun _ => ⟨rfl, rfl⟩, fun h => by rw [show n = 0 + n by omega, sbsR_stop (k := 0) h]; rfl, Nat.le_refl _, fun _ _ m hm => (nomatch hm), .nil, hS⟩ ?_
  rintro i us w5 ⟨hi, st, B, d, ms, Lq', Lx, Li, hQ', hok, herr, hml, hin, hv, hS⟩
  obtain ⟨q, Lq, hQq, hq, rfl⟩ := hQ'.out
  replace hS : Sf (keys L) w _ (Lq ++ (Lx ++ (Li ++ []))) [(bd, .cells (qr8L bq st.e).toArray 88 (0, 0)), (_, .cells (recL0 { zeroRx k with p := (pthR s1).2, f := f } B ms.length d none 0).toArray 63 (0, 0)), _] := hS.out8
  by_cases hlt : i < n
  · have gi : decide ((i : Int) < IntKind.i64.wrap (n : Int)) = true := decide_eq_true (by rw [hwn]; omega)
    by_cases he : st.e = 0
    · have ge : (st.e == 0) = true := by simp [he]
      have hQ2 : Q8 bd bq S st ((bd, .cells (qr8L bq st.e).toArray 88 (0, 0)) :: Lq) := ⟨q, Lq, hQq, hq, rfl⟩
      obtain ⟨ho1, ho2⟩ := hok he
      have hfail : (sbR st).1.e ≠ 0 → (sbsR s2 n).1.e = (sbR st).1.e := fun h => by
        have := sbsR_fail (s := s2) hlt (by rw [ho1]; exact he) (by rw [ho1]; exact h)
        rw [ho1] at this
        exact this
      have hnext : (sbR st).1.e = 0 → sbsR s2 (i + 1) = ((sbR st).1, ms.map Sm.s ++ [(sbR st).2]) := fun h => by
        have := sbsR_next (s := s2) (i := i) (by rw [ho1]; exact he) (by rw [ho1]; exact h)
        rw [ho1, ho2] at this
        exact this
      have hsb : sbR st = ((vaR (aftW 2 (aftW 1 st))).1, ⟨numW 1 st, numW 2 (aftW 1 st), (vaR (aftW 2 (aftW 1 st))).2⟩) := rfl
      rw [hsb] at hfail hnext
      clear hsb
      repeat ((conv => whnf); first | (apply q_i; focus (intro w1 hS; (conv => whnf); first | exact ⟨rfl, rfl⟩ | ((first | refine ld_f hS 0 rfl rfl ?_ | refine ld_f hS 1 rfl rfl ?_ | refine ld_f hS 2 rfl rfl ?_ | refine ld_f hS 3 rfl rfl ?_ | refine ldA_f hS 0 rfl rfl ?_ | refine ldA_f hS 1 rfl rfl ?_ | refine ldA_f hS 2 rfl rfl ?_ | refine ldA_f hS 3 rfl rfl ?_); (conv => whnf); exact ⟨rfl, rfl⟩) | ((refine ldN_f hS 0 rfl (lb9 rfl) ?_); (conv => whnf); exact ⟨rfl, rfl⟩) | ((refine ldN_f hS 1 rfl (lb9 rfl) ?_); (conv => whnf); exact ⟨rfl, rfl⟩) | ((refine ldN_f hS 2 rfl (lb9 rfl) ?_); (conv => whnf); exact ⟨rfl, rfl⟩) | ((refine ldN_f hS 3 rfl (lb9 rfl) ?_); (conv => whnf); exact ⟨rfl, rfl⟩))) | (refine nw_f hS ?_; intro b w1 hS) | refine as_i hS ?_ | refine as_i (hS.subs (List.nil_sublist _) sb9) ?_ | refine as_i (hS.subs (List.Sublist.refl _) sb9) ?_ | refine bar_f hS ?_ | refine ld_f hS 0 rfl rfl ?_ | refine ld_f hS 1 rfl rfl ?_ | refine ld_f hS 2 rfl rfl ?_ | refine ld_f hS 3 rfl rfl ?_ | refine ldA_f hS 0 rfl rfl ?_ | refine ldA_f hS 1 rfl rfl ?_ | refine ldA_f hS 2 rfl rfl ?_ | refine ldA_f hS 3 rfl rfl ?_ | ((first | refine stN_f hS 0 rfl (lb9 rfl) rfl rfl ?_ | refine stN_f hS 1 rfl (lb9 rfl) rfl rfl ?_ | refine stN_f hS 2 rfl (lb9 rfl) rfl rfl ?_ | refine stN_f hS 3 rfl (lb9 rfl) rfl rfl ?_ | refine stM_f hS 0 rfl (lb9 rfl) rfl ?_ | refine stM_f hS 1 rfl (lb9 rfl) rfl ?_ | refine stM_f hS 2 rfl (lb9 rfl) rfl ?_ | refine stM_f hS 3 rfl (lb9 rfl) rfl ?_); (conv => whnf); intro w1 hS) | refine ldN_f hS 0 rfl (lb9 rfl) ?_ | refine ldN_f hS 1 rfl (lb9 rfl) ?_ | refine ldN_f hS 2 rfl (lb9 rfl) ?_ | refine ldN_f hS 3 rfl (lb9 rfl) ?_ | (refine dr9 hS ?_; intro w1 hS) | refine br_t (by assumption) ?_ | refine br_f (by assumption) ?_)
      replace hS := hS.sw8.in8
      (conv => whnf)
      refine fc_m (num8_c bd bq S st _ hQ2 hs 1 (by decide) _ hS.ownF) ?_
      rintro v w6 ⟨rfl, L5, hQ5, hS'⟩
      replace hS := hS.callW hS'
      repeat ((conv => whnf); first | (apply q_i; focus (intro w1 hS; (conv => whnf); first | exact ⟨rfl, rfl⟩ | ((first | refine ld_f hS 0 rfl rfl ?_ | refine ld_f hS 1 rfl rfl ?_ | refine ld_f hS 2 rfl rfl ?_ | refine ldA_f hS 0 rfl rfl ?_ | refine ldA_f hS 1 rfl rfl ?_ | refine ldA_f hS 2 rfl rfl ?_); (conv => whnf); exact ⟨rfl, rfl⟩) | ((refine ldN_f hS 0 rfl (lb9 rfl) ?_); (conv => whnf); exact ⟨rfl, rfl⟩) | ((refine ldN_f hS 1 rfl (lb9 rfl) ?_); (conv => whnf); exact ⟨rfl, rfl⟩) | ((refine ldN_f hS 2 rfl (lb9 rfl) ?_); (conv => whnf); exact ⟨rfl, rfl⟩) | ((refine ldN_f hS 3 rfl (lb9 rfl) ?_); (conv => whnf); exact ⟨rfl, rfl⟩))) | (refine nw_f hS ?_; intro b w1 hS) | refine as_i hS ?_ | refine as_i (hS.subs (List.nil_sublist _) sb9) ?_ | refine as_i (hS.subs (List.Sublist.refl _) sb9) ?_ | refine bar_f hS ?_ | refine ld_f hS 0 rfl rfl ?_ | refine ld_f hS 1 rfl rfl ?_ | refine ld_f hS 2 rfl rfl ?_ | refine ldA_f hS 0 rfl rfl ?_ | refine ldA_f hS 1 rfl rfl ?_ | refine ldA_f hS 2 rfl rfl ?_ | ((first | refine stN_f hS 0 rfl (lb9 rfl) rfl rfl ?_ | refine stN_f hS 1 rfl (lb9 rfl) rfl rfl ?_ | refine stN_f hS 2 rfl (lb9 rfl) rfl rfl ?_ | refine stM_f hS 0 rfl (lb9 rfl) rfl ?_ | refine stM_f hS 1 rfl (lb9 rfl) rfl ?_ | refine stM_f hS 2 rfl (lb9 rfl) rfl ?_); (conv => whnf); intro w1 hS) | refine ldN_f hS 0 rfl (lb9 rfl) ?_ | refine ldN_f hS 1 rfl (lb9 rfl) ?_ | refine ldN_f hS 2 rfl (lb9 rfl) ?_ | refine ldN_f hS 3 rfl (lb9 rfl) ?_ | (refine dr9 hS ?_; intro w1 hS) | refine br_t (by assumption) ?_ | refine br_f (by assumption) ?_)
      (conv => whnf)
      refine fc_m (num8_c bd bq S _ _ hQ5 hs 2 (by decide) _ hS.ownF) ?_
      rintro v w7 ⟨rfl, L6, hQ6, hS'⟩
      replace hS := hS.callW hS'
      repeat ((conv => whnf); first | (apply q_i; focus (intro w1 hS; (conv => whnf); first | exact ⟨rfl, rfl⟩ | ((first | refine ld_f hS 0 rfl rfl ?_ | refine ld_f hS 1 rfl rfl ?_ | refine ld_f hS 2 rfl rfl ?_ | refine ldA_f hS 0 rfl rfl ?_ | refine ldA_f hS 1 rfl rfl ?_ | refine ldA_f hS 2 rfl rfl ?_); (conv => whnf); exact ⟨rfl, rfl⟩) | ((refine ldN_f hS 0 rfl (lb9 rfl) ?_); (conv => whnf); exact ⟨rfl, rfl⟩) | ((refine ldN_f hS 1 rfl (lb9 rfl) ?_); (conv => whnf); exact ⟨rfl, rfl⟩) | ((refine ldN_f hS 2 rfl (lb9 rfl) ?_); (conv => whnf); exact ⟨rfl, rfl⟩) | ((refine ldN_f hS 3 rfl (lb9 rfl) ?_); (conv => whnf); exact ⟨rfl, rfl⟩))) | (refine nw_f hS ?_; intro b w1 hS) | refine as_i hS ?_ | refine as_i (hS.subs (List.nil_sublist _) sb9) ?_ | refine as_i (hS.subs (List.Sublist.refl _) sb9) ?_ | refine bar_f hS ?_ | refine ld_f hS 0 rfl rfl ?_ | refine ld_f hS 1 rfl rfl ?_ | refine ld_f hS 2 rfl rfl ?_ | refine ldA_f hS 0 rfl rfl ?_ | refine ldA_f hS 1 rfl rfl ?_ | refine ldA_f hS 2 rfl rfl ?_ | ((first | refine stN_f hS 0 rfl (lb9 rfl) rfl rfl ?_ | refine stN_f hS 1 rfl (lb9 rfl) rfl rfl ?_ | refine stN_f hS 2 rfl (lb9 rfl) rfl rfl ?_ | refine stM_f hS 0 rfl (lb9 rfl) rfl ?_ | refine stM_f hS 1 rfl (lb9 rfl) rfl ?_ | refine stM_f hS 2 rfl (lb9 rfl) rfl ?_); (conv => whnf); intro w1 hS) | refine ldN_f hS 0 rfl (lb9 rfl) ?_ | refine ldN_f hS 1 rfl (lb9 rfl) ?_ | refine ldN_f hS 2 rfl (lb9 rfl) ?_ | refine ldN_f hS 3 rfl (lb9 rfl) ?_ | (refine dr9 hS ?_; intro w1 hS) | refine br_t (by assumption) ?_ | refine br_f (by assumption) ?_)
      (conv => whnf)
      refine fc_m (value8_c bd bq S _ _ hQ6 hs _ hS.ownF) ?_
      rintro v w8 ⟨B', cb, Lb, rfl, hH, L7, hQ7, hS'⟩
      replace hS := (hS.callW hS').join
      rw [wr8] at hS
      generalize (vaR (aftW 2 (aftW 1 st))).1 = s4 at *
      generalize (vaR (aftW 2 (aftW 1 st))).2 = va at *
      generalize numW 1 st = dr at *
      generalize numW 2 (aftW 1 st) = dn at *
      repeat ((conv => whnf); first | (apply q_i; focus (intro w1 hS; (conv => whnf); first | exact ⟨rfl, rfl⟩ | ((first | refine ld_f hS 0 rfl rfl ?_ | refine ld_f hS 1 rfl rfl ?_ | refine ld_f hS 2 rfl rfl ?_ | refine ldA_f hS 0 rfl rfl ?_ | refine ldA_f hS 1 rfl rfl ?_ | refine ldA_f hS 2 rfl rfl ?_); (conv => whnf); exact ⟨rfl, rfl⟩) | ((refine ldN_f hS 0 rfl (lb9 rfl) ?_); (conv => whnf); exact ⟨rfl, rfl⟩) | ((refine ldN_f hS 1 rfl (lb9 rfl) ?_); (conv => whnf); exact ⟨rfl, rfl⟩) | ((refine ldN_f hS 2 rfl (lb9 rfl) ?_); (conv => whnf); exact ⟨rfl, rfl⟩) | ((refine ldN_f hS 3 rfl (lb9 rfl) ?_); (conv => whnf); exact ⟨rfl, rfl⟩))) | (refine nw_f hS ?_; intro b w1 hS) | refine as_i hS ?_ | refine as_i (hS.subs (List.nil_sublist _) sb9) ?_ | refine as_i (hS.subs (List.Sublist.refl _) sb9) ?_ | refine bar_f hS ?_ | refine ld_f hS 0 rfl rfl ?_ | refine ld_f hS 1 rfl rfl ?_ | refine ld_f hS 2 rfl rfl ?_ | refine ldA_f hS 0 rfl rfl ?_ | refine ldA_f hS 1 rfl rfl ?_ | refine ldA_f hS 2 rfl rfl ?_ | ((first | refine stN_f hS 0 rfl (lb9 rfl) rfl rfl ?_ | refine stN_f hS 1 rfl (lb9 rfl) rfl rfl ?_ | refine stN_f hS 2 rfl (lb9 rfl) rfl rfl ?_ | refine stM_f hS 0 rfl (lb9 rfl) rfl ?_ | refine stM_f hS 1 rfl (lb9 rfl) rfl ?_ | refine stM_f hS 2 rfl (lb9 rfl) rfl ?_); (conv => whnf); intro w1 hS) | refine ldN_f hS 0 rfl (lb9 rfl) ?_ | refine ldN_f hS 1 rfl (lb9 rfl) ?_ | refine ldN_f hS 2 rfl (lb9 rfl) ?_ | refine ldN_f hS 3 rfl (lb9 rfl) ?_ | (refine dr9 hS ?_; intro w1 hS) | refine br_t (by assumption) ?_ | refine br_f (by assumption) ?_)
      (conv => whnf)
      replace hS := hS.rot
      refine app_f TB_ok elRM hS hv (show Rd _ _ (flat encM [⟨⟨dr, dn, va⟩, B', cb⟩]) from hS.rd 0 rfl) rfl (fun y hy => encM_one _ y (by simpa [flat] using hy)) (by omega) (by omega) ?_
      intro v' Lv' w9 hv' hS
      obtain ⟨A', c', rfl, hv'⟩ := hv'.open
      replace hS := hS.rot
      repeat ((conv => whnf); first | (apply q_i; focus (intro w1 hS; (conv => whnf); first | exact ⟨rfl, rfl⟩ | ((first | refine ld_f hS 0 rfl rfl ?_ | refine ld_f hS 1 rfl rfl ?_ | refine ld_f hS 2 rfl rfl ?_ | refine ld_f hS 3 rfl rfl ?_ | refine ldA_f hS 0 rfl rfl ?_ | refine ldA_f hS 1 rfl rfl ?_ | refine ldA_f hS 2 rfl rfl ?_ | refine ldA_f hS 3 rfl rfl ?_); (conv => whnf); exact ⟨rfl, rfl⟩))) | (refine nw_f hS ?_; intro b w1 hS) | refine as_i hS ?_ | refine as_i (hS.subs (List.nil_sublist _) sb9) ?_ | refine as_i (hS.subs (List.Sublist.refl _) sb9) ?_ | refine bar_f hS ?_ | refine ld_f hS 0 rfl rfl ?_ | refine ld_f hS 1 rfl rfl ?_ | refine ld_f hS 2 rfl rfl ?_ | refine ld_f hS 3 rfl rfl ?_ | refine ldA_f hS 0 rfl rfl ?_ | refine ldA_f hS 1 rfl rfl ?_ | refine ldA_f hS 2 rfl rfl ?_ | refine ldA_f hS 3 rfl rfl ?_ | ((first | refine stN_f hS 0 rfl (lb9 rfl) rfl rfl ?_ | refine stN_f hS 1 rfl (lb9 rfl) rfl rfl ?_ | refine stN_f hS 2 rfl (lb9 rfl) rfl rfl ?_ | refine stN_f hS 3 rfl (lb9 rfl) rfl rfl ?_ | refine stM_f hS 0 rfl (lb9 rfl) rfl ?_ | refine stM_f hS 1 rfl (lb9 rfl) rfl ?_ | refine stM_f hS 2 rfl (lb9 rfl) rfl ?_ | refine stM_f hS 3 rfl (lb9 rfl) rfl ?_); (conv => whnf); intro w1 hS) | (refine dr9 hS ?_; intro w1 hS) | refine br_t (by assumption) ?_ | refine br_f (by assumption) ?_)
      refine ⟨rfl, i + 1, ?_, ⟨by omega, s4, A', c', ms ++ [⟨⟨dr, dn, va⟩, B', cb⟩], L7, Lv', Li ++ Lb, hQ7, fun h => ?_, hfail, ?_, ?_, ?_, ?_⟩, by omega⟩
      · rw [wi hlt (by omega)]
        rfl
      · rw [hnext h, List.map_append]
        exact ⟨rfl, rfl⟩
      · rw [List.length_append]
        simp only [List.length_singleton]
        omega
      · intro w'' hh m hm
        rcases List.mem_append.1 hm with hm | hm
        · exact hin w'' hh.left m hm
        · obtain rfl := List.mem_singleton.1 hm
          exact hH w'' hh.right
      · rw [flat_append, List.length_append]
        exact hv'
      · rw [List.length_append]
        exact hS.subs (List.Sublist.refl _) (.cons _ (.cons _ (.refl _)))
    · have ge : (st.e == 0) = false := by simp [he]
      repeat ((conv => whnf); first | (apply q_i; focus (intro w1 hS; (conv => whnf); first | exact ⟨rfl, rfl⟩ | ((first | refine ld_f hS 0 rfl rfl ?_ | refine ld_f hS 1 rfl rfl ?_ | refine ld_f hS 2 rfl rfl ?_ | refine ldA_f hS 0 rfl rfl ?_ | refine ldA_f hS 1 rfl rfl ?_ | refine ldA_f hS 2 rfl rfl ?_); (conv => whnf); exact ⟨rfl, rfl⟩))) | (refine nw_f hS ?_; intro b w1 hS) | refine as_i hS ?_ | refine as_i (hS.subs (List.nil_sublist _) sb9) ?_ | refine as_i (hS.subs (List.Sublist.refl _) sb9) ?_ | refine bar_f hS ?_ | refine ld_f hS 0 rfl rfl ?_ | refine ld_f hS 1 rfl rfl ?_ | refine ld_f hS 2 rfl rfl ?_ | refine ldA_f hS 0 rfl rfl ?_ | refine ldA_f hS 1 rfl rfl ?_ | refine ldA_f hS 2 rfl rfl ?_ | ((first | refine stN_f hS 0 rfl (lb9 rfl) rfl rfl ?_ | refine stN_f hS 1 rfl (lb9 rfl) rfl rfl ?_ | refine stN_f hS 2 rfl (lb9 rfl) rfl rfl ?_ | refine stM_f hS 0 rfl (lb9 rfl) rfl ?_ | refine stM_f hS 1 rfl (lb9 rfl) rfl ?_ | refine stM_f hS 2 rfl (lb9 rfl) rfl ?_); (conv => whnf); intro w1 hS) | (refine dr9 hS ?_; intro w1 hS) | refine br_t (by assumption) ?_ | refine br_f (by assumption) ?_)
      replace hS : Sf (keys L) w _ (((bd, qr8O bq st.e) :: Lq) ++ (Lx ++ (Li ++ []))) _ := hS.in8
      repeat ((conv => whnf); first | (apply q_i; focus (intro w1 hS; (conv => whnf); first | exact ⟨rfl, rfl⟩ | ((first | refine ld_f hS 0 rfl rfl ?_ | refine ld_f hS 1 rfl rfl ?_ | refine ld_f hS 2 rfl rfl ?_ | refine ldA_f hS 0 rfl rfl ?_ | refine ldA_f hS 1 rfl rfl ?_ | refine ldA_f hS 2 rfl rfl ?_); (conv => whnf); exact ⟨rfl, rfl⟩) | ((refine ldN_f hS 0 rfl (lb9 rfl) ?_); (conv => whnf); exact ⟨rfl, rfl⟩) | ((refine ldN_f hS 1 rfl (lb9 rfl) ?_); (conv => whnf); exact ⟨rfl, rfl⟩) | ((refine ldN_f hS 2 rfl (lb9 rfl) ?_); (conv => whnf); exact ⟨rfl, rfl⟩) | ((refine ldN_f hS 3 rfl (lb9 rfl) ?_); (conv => whnf); exact ⟨rfl, rfl⟩))) | (refine nw_f hS ?_; intro b w1 hS) | refine as_i hS ?_ | refine as_i (hS.subs (List.nil_sublist _) sb9) ?_ | refine as_i (hS.subs (List.Sublist.refl _) sb9) ?_ | refine bar_f hS ?_ | refine ld_f hS 0 rfl rfl ?_ | refine ld_f hS 1 rfl rfl ?_ | refine ld_f hS 2 rfl rfl ?_ | refine ldA_f hS 0 rfl rfl ?_ | refine ldA_f hS 1 rfl rfl ?_ | refine ldA_f hS 2 rfl rfl ?_ | ((first | refine stN_f hS 0 rfl (lb9 rfl) rfl rfl ?_ | refine stN_f hS 1 rfl (lb9 rfl) rfl rfl ?_ | refine stN_f hS 2 rfl (lb9 rfl) rfl rfl ?_ | refine stM_f hS 0 rfl (lb9 rfl) rfl ?_ | refine stM_f hS 1 rfl (lb9 rfl) rfl ?_ | refine stM_f hS 2 rfl (lb9 rfl) rfl ?_); (conv => whnf); intro w1 hS) | refine ldN_f hS 0 rfl (lb9 rfl) ?_ | refine ldN_f hS 1 rfl (lb9 rfl) ?_ | refine ldN_f hS 2 rfl (lb9 rfl) ?_ | refine ldN_f hS 3 rfl (lb9 rfl) ?_ | (refine dr9 hS ?_; intro w1 hS) | refine br_t (by assumption) ?_ | refine br_f (by assumption) ?_)
      refine ⟨{ zeroRx k with p := (pthR s1).2, f := f, xs := ms.map Sm.s }, ⟨B, d, none, 0⟩, ms, Lx ++ Li, ?_, fun h => ?_, fun w'' hh => ⟨rfl, ⟨hv.rdK hh.left, hin w'' hh.right⟩, .inl rfl⟩, (bd, qr8O bq st.e) :: Lq, Q8.err ⟨q, Lq, hQq, hq, rfl⟩ he (herr he), by simpa using hS.fr (List.Sublist.refl _)⟩
      · unfold recV recL
        simp only [List.length_map]
        rfl
      · exact absurd ((herr he).symm.trans h) he
  · have gi : decide ((i : Int) < IntKind.i64.wrap (n : Int)) = false := decide_eq_false (by rw [hwn]; omega)
    obtain rfl : i = n := by omega
    by_cases he : st.e = 0
    · have ge : (st.e == 0) = true := by simp [he]
      repeat ((conv => whnf); first | (apply q_i; focus (intro w1 hS; (conv => whnf); first | exact ⟨rfl, rfl⟩ | ((first | refine ld_f hS 0 rfl rfl ?_ | refine ld_f hS 1 rfl rfl ?_ | refine ld_f hS 2 rfl rfl ?_ | refine ldA_f hS 0 rfl rfl ?_ | refine ldA_f hS 1 rfl rfl ?_ | refine ldA_f hS 2 rfl rfl ?_); (conv => whnf); exact ⟨rfl, rfl⟩))) | (refine nw_f hS ?_; intro b w1 hS) | refine as_i hS ?_ | refine as_i (hS.subs (List.nil_sublist _) sb9) ?_ | refine as_i (hS.subs (List.Sublist.refl _) sb9) ?_ | refine bar_f hS ?_ | refine ld_f hS 0 rfl rfl ?_ | refine ld_f hS 1 rfl rfl ?_ | refine ld_f hS 2 rfl rfl ?_ | refine ldA_f hS 0 rfl rfl ?_ | refine ldA_f hS 1 rfl rfl ?_ | refine ldA_f hS 2 rfl rfl ?_ | ((first | refine stN_f hS 0 rfl (lb9 rfl) rfl rfl ?_ | refine stN_f hS 1 rfl (lb9 rfl) rfl rfl ?_ | refine stN_f hS 2 rfl (lb9 rfl) rfl rfl ?_ | refine stM_f hS 0 rfl (lb9 rfl) rfl ?_ | refine stM_f hS 1 rfl (lb9 rfl) rfl ?_ | refine stM_f hS 2 rfl (lb9 rfl) rfl ?_); (conv => whnf); intro w1 hS) | (refine dr9 hS ?_; intro w1 hS) | refine br_t (by assumption) ?_ | refine br_f (by assumption) ?_)
      replace hS : Sf (keys L) w _ (((bd, qr8O bq st.e) :: Lq) ++ (Lx ++ (Li ++ []))) _ := hS.in8
      repeat ((conv => whnf); first | (apply q_i; focus (intro w1 hS; (conv => whnf); first | exact ⟨rfl, rfl⟩ | ((first | refine ld_f hS 0 rfl rfl ?_ | refine ld_f hS 1 rfl rfl ?_ | refine ld_f hS 2 rfl rfl ?_ | refine ldA_f hS 0 rfl rfl ?_ | refine ldA_f hS 1 rfl rfl ?_ | refine ldA_f hS 2 rfl rfl ?_); (conv => whnf); exact ⟨rfl, rfl⟩) | ((refine ldN_f hS 0 rfl (lb9 rfl) ?_); (conv => whnf); exact ⟨rfl, rfl⟩) | ((refine ldN_f hS 1 rfl (lb9 rfl) ?_); (conv => whnf); exact ⟨rfl, rfl⟩) | ((refine ldN_f hS 2 rfl (lb9 rfl) ?_); (conv => whnf); exact ⟨rfl, rfl⟩) | ((refine ldN_f hS 3 rfl (lb9 rfl) ?_); (conv => whnf); exact ⟨rfl, rfl⟩))) | (refine nw_f hS ?_; intro b w1 hS) | refine as_i hS ?_ | refine as_i (hS.subs (List.nil_sublist _) sb9) ?_ | refine as_i (hS.subs (List.Sublist.refl _) sb9) ?_ | refine bar_f hS ?_ | refine ld_f hS 0 rfl rfl ?_ | refine ld_f hS 1 rfl rfl ?_ | refine ld_f hS 2 rfl rfl ?_ | refine ldA_f hS 0 rfl rfl ?_ | refine ldA_f hS 1 rfl rfl ?_ | refine ldA_f hS 2 rfl rfl ?_ | ((first | refine stN_f hS 0 rfl (lb9 rfl) rfl rfl ?_ | refine stN_f hS 1 rfl (lb9 rfl) rfl rfl ?_ | refine stN_f hS 2 rfl (lb9 rfl) rfl rfl ?_ | refine stM_f hS 0 rfl (lb9 rfl) rfl ?_ | refine stM_f hS 1 rfl (lb9 rfl) rfl ?_ | refine stM_f hS 2 rfl (lb9 rfl) rfl ?_); (conv => whnf); intro w1 hS) | refine ldN_f hS 0 rfl (lb9 rfl) ?_ | refine ldN_f hS 1 rfl (lb9 rfl) ?_ | refine ldN_f hS 2 rfl (lb9 rfl) ?_ | refine ldN_f hS 3 rfl (lb9 rfl) ?_ | (refine dr9 hS ?_; intro w1 hS) | refine br_t (by assumption) ?_ | refine br_f (by assumption) ?_)
      refine ⟨{ zeroRx k with p := (pthR s1).2, f := f, xs := ms.map Sm.s }, ⟨B, d, none, 0⟩, ms, Lx ++ Li, ?_, fun h => ?_, fun w'' hh => ⟨rfl, ⟨hv.rdK hh.left, hin w'' hh.right⟩, .inl rfl⟩, (bd, qr8O bq st.e) :: Lq, by rw [(hok he).1]; exact ⟨q, Lq, hQq, hq, rfl⟩, by simpa using hS.fr (List.Sublist.refl _)⟩
      · unfold recV recL
        simp only [List.length_map]
        rfl
      · rw [(hok he).2]
    · have ge : (st.e == 0) = false := by simp [he]
      repeat ((conv => whnf); first | (apply q_i; focus (intro w1 hS; (conv => whnf); first | exact ⟨rfl, rfl⟩ | ((first | refine ld_f hS 0 rfl rfl ?_ | refine ld_f hS 1 rfl rfl ?_ | refine ld_f hS 2 rfl rfl ?_ | refine ldA_f hS 0 rfl rfl ?_ | refine ldA_f hS 1 rfl rfl ?_ | refine ldA_f hS 2 rfl rfl ?_); (conv => whnf); exact ⟨rfl, rfl⟩))) | (refine nw_f hS ?_; intro b w1 hS) | refine as_i hS ?_ | refine as_i (hS.subs (List.nil_sublist _) sb9) ?_ | refine as_i (hS.subs (List.Sublist.refl _) sb9) ?_ | refine bar_f hS ?_ | refine ld_f hS 0 rfl rfl ?_ | refine ld_f hS 1 rfl rfl ?_ | refine ld_f hS 2 rfl rfl ?_ | refine ldA_f hS 0 rfl rfl ?_ | refine ldA_f hS 1 rfl rfl ?_ | refine ldA_f hS 2 rfl rfl ?_ | ((first | refine stN_f hS 0 rfl (lb9 rfl) rfl rfl ?_ | refine stN_f hS 1 rfl (lb9 rfl) rfl rfl ?_ | refine stN_f hS 2 rfl (lb9 rfl) rfl rfl ?_ | refine stM_f hS 0 rfl (lb9 rfl) rfl ?_ | refine stM_f hS 1 rfl (lb9 rfl) rfl ?_ | refine stM_f hS 2 rfl (lb9 rfl) rfl ?_); (conv => whnf); intro w1 hS) | (refine dr9 hS ?_; intro w1 hS) | refine br_t (by assumption) ?_ | refine br_f (by assumption) ?_)
      replace hS : Sf (keys L) w _ (((bd, qr8O bq st.e) :: Lq) ++ (Lx ++ (Li ++ []))) _ := hS.in8
      repeat ((conv => whnf); first | (apply q_i; focus (intro w1 hS; (conv => whnf); first | exact ⟨rfl, rfl⟩ | ((first | refine ld_f hS 0 rfl rfl ?_ | refine ld_f hS 1 rfl rfl ?_ | refine ld_f hS 2 rfl rfl ?_ | refine ldA_f hS 0 rfl rfl ?_ | refine ldA_f hS 1 rfl rfl ?_ | refine ldA_f hS 2 rfl rfl ?_); (conv => whnf); exact ⟨rfl, rfl⟩) | ((refine ldN_f hS 0 rfl (lb9 rfl) ?_); (conv => whnf); exact ⟨rfl, rfl⟩) | ((refine ldN_f hS 1 rfl (lb9 rfl) ?_); (conv => whnf); exact ⟨rfl, rfl⟩) | ((refine ldN_f hS 2 rfl (lb9 rfl) ?_); (conv => whnf); exact ⟨rfl, rfl⟩) | ((refine ldN_f hS 3 rfl (lb9 rfl) ?_); (conv => whnf); exact ⟨rfl, rfl⟩))) | (refine nw_f hS ?_; intro b w1 hS) | refine as_i hS ?_ | refine as_i (hS.subs (List.nil_sublist _) sb9) ?_ | refine as_i (hS.subs (List.Sublist.refl _) sb9) ?_ | refine bar_f hS ?_ | refine ld_f hS 0 rfl rfl ?_ | refine ld_f hS 1 rfl rfl ?_ | refine ld_f hS 2 rfl rfl ?_ | refine ldA_f hS 0 rfl rfl ?_ | refine ldA_f hS 1 rfl rfl ?_ | refine ldA_f hS 2 rfl rfl ?_ | ((first | refine stN_f hS 0 rfl (lb9 rfl) rfl rfl ?_ | refine stN_f hS 1 rfl (lb9 rfl) rfl rfl ?_ | refine stN_f hS 2 rfl (lb9 rfl) rfl rfl ?_ | refine stM_f hS 0 rfl (lb9 rfl) rfl ?_ | refine stM_f hS 1 rfl (lb9 rfl) rfl ?_ | refine stM_f hS 2 rfl (lb9 rfl) rfl ?_); (conv => whnf); intro w1 hS) | refine ldN_f hS 0 rfl (lb9 rfl) ?_ | refine ldN_f hS 1 rfl (lb9 rfl) ?_ | refine ldN_f hS 2 rfl (lb9 rfl) ?_ | refine ldN_f hS 3 rfl (lb9 rfl) ?_ | (refine dr9 hS ?_; intro w1 hS) | refine br_t (by assumption) ?_ | refine br_f (by assumption) ?_)
      refine ⟨{ zeroRx k with p := (pthR s1).2, f := f, xs := ms.map Sm.s }, ⟨B, d, none, 0⟩, ms, Lx ++ Li, ?_, fun h => ?_, fun w'' hh => ⟨rfl, ⟨hv.rdK hh.left, hin w'' hh.right⟩, .inl rfl⟩, (bd, qr8O bq st.e) :: Lq, Q8.err ⟨q, Lq, hQq, hq, rfl⟩ he (herr he), by simpa using hS.fr (List.Sublist.refl _)⟩
      · unfold recV recL
        simp only [List.length_map]
        rfl
      · exact absurd ((herr he).symm.trans h) he
end Go.RV

set_option maxRecDepth 20000
set_option linter.unusedVariables false
set_option linter.unusedSimpArgs false
namespace Go.RV
open Go Go.Proofs Go.RowKit

set_option maxHeartbeats 8000000 in
theorem rSame18_c (x y : Rx) (h k : Hd) (ms ns : List Sm) (w : World) (hx : MemR w x h ms) (hy : MemR w y k ns) (hl : x.xs.length ≤ 1000000) (he : ∀ s ∈ x.xs, s.v.ks.length ≤ 1000000) (hv : x.v.ks.length ≤ 1000000) :
    Fc Tryz.prog 20 [recV x h, recV y k] w fun v w' => v = .bool (sameR x y) ∧ St [] w w' [] := by
  have heq : ∀ w', RdM w' h.A ms → RdM w' k.A ns → Fc Tryz.prog 46 [regV x.f h.A x.xs.length h.c, regV y.f k.A y.xs.length k.c] w' fun v w'' => v = .bool (veq x.f y.f && sameSs x.xs y.xs) ∧ St [] w' w'' [] := fun w' p q => by
    have := rsm_c x.f y.f h.A k.A h.c k.c ms ns w' p q (by rw [← hx.len]; exact hl) (fun m hm => he m.s (by rw [hx.eq]; exact List.mem_map_of_mem hm))
    rwa [← hx.eq, ← hy.eq, ← hx.len, ← hy.len] at this
  have hsm : sameR x y = (!(x.k != y.k) && (!(x.r != y.r) && (!(!eq3 x.n0 x.n1 x.n2 y.n0 y.n1 y.n2) && (!(!eq3 x.rk x.ra x.rq y.rk y.ra y.rq) && (!(!streq (strY x.p) (strY y.p)) && (!(!veq x.g y.g) && (!(!eq4 x.ci x.cb x.cr x.cs y.ci y.cb y.cr y.cs) &&
      ((veq x.f y.f && sameSs x.xs y.xs) && ((x.vi == y.vi) && ((x.vt == y.vt) && ((x.vc == y.vc) && sameB x.v.d x.v.n x.v.ks y.v.d y.v.n y.v.ks))))))))))) := by
    unfold sameR sameV
    rw [streq_strY]
    simp only [bne, Bool.not_not]
    ac_rfl
  rw [hsm]
  clear hsm
  refine fc_i TB_ok Tryz.func20 rfl (by kernel_rfl) ?_
  have hS := Sf.refl w
  repeat' ((conv => whnf); first | refine And.intro ?_ ?_ | (apply q_i; focus (intro w1 hS; (conv => whnf); first | exact ⟨rfl, rfl⟩ | ((first | refine ld_f hS 0 rfl rfl ?_ | refine ld_f hS 1 rfl rfl ?_ | refine ldA_f hS 0 rfl rfl ?_ | refine ldA_f hS 1 rfl rfl ?_); (conv => whnf); exact ⟨rfl, rfl⟩) | ((refine ldN_f hS 0 rfl (lb9 rfl) ?_); (conv => whnf); exact ⟨rfl, rfl⟩) | ((refine ldN_f hS 1 rfl (lb9 rfl) ?_); (conv => whnf); exact ⟨rfl, rfl⟩) | ((refine neArr3 x.n0 x.n1 x.n2 y.n0 y.n1 y.n2 ?_); (conv => whnf); exact ⟨rfl, rfl⟩) | ((refine nePol x.rk x.ra x.rq y.rk y.ra y.rq ?_); (conv => whnf); exact ⟨rfl, rfl⟩) | ((refine neVec x.g y.g ?_); (conv => whnf); exact ⟨rfl, rfl⟩) | ((refine neRCh x.ci x.cb x.cr x.cs y.ci y.cb y.cr y.cs ?_); (conv => whnf); exact ⟨rfl, rfl⟩) | ((refine br_i (fun _ => ?_) (fun _ => ?_)); (conv => whnf); exact ⟨rfl, rfl⟩))) | (refine nw_f hS ?_; intro b w1 hS) | refine as_i hS ?_ | refine as_i (hS.subs (List.nil_sublist _) sb9) ?_ | refine as_i (hS.subs (List.Sublist.refl _) sb9) ?_ | refine bar_f hS ?_ | refine ld_f hS 0 rfl rfl ?_ | refine ld_f hS 1 rfl rfl ?_ | refine ldA_f hS 0 rfl rfl ?_ | refine ldA_f hS 1 rfl rfl ?_ | ((first | refine stN_f hS 0 rfl (lb9 rfl) rfl rfl ?_ | refine stN_f hS 1 rfl (lb9 rfl) rfl rfl ?_ | refine stM_f hS 0 rfl (lb9 rfl) rfl ?_ | refine stM_f hS 1 rfl (lb9 rfl) rfl ?_); (conv => whnf); intro w1 hS) | refine ldN_f hS 0 rfl (lb9 rfl) ?_ | refine ldN_f hS 1 rfl (lb9 rfl) ?_ | refine neArr3 x.n0 x.n1 x.n2 y.n0 y.n1 y.n2 ?_ | refine nePol x.rk x.ra x.rq y.rk y.ra y.rq ?_ | refine neVec x.g y.g ?_ | refine neRCh x.ci x.cb x.cr x.cs y.ci y.cb y.cr y.cs ?_ | (refine fc_m (heq _ (hx.l.below hS.nil) (hy.l.below hS.nil)) ?_; rintro v w3 ⟨rfl, hS'⟩; replace hS := hS.call0 hS') | (refine fc_m (rsame_c _ _ _ _ x.v.ks _ _ _ _ y.v.ks _ (hx.v.below hS.nil) (hy.v.below hS.nil) (by omega)) ?_; rintro v w3 ⟨rfl, hS'⟩; replace hS := hS.call0 hS') | (refine br_i (fun _ => ?_) (fun _ => ?_)) | (refine dr9 hS ?_; intro w1 hS) | refine br_t (by assumption) ?_ | refine br_f (by assumption) ?_)
  all_goals first
    | exact hS.nil
    | (refine congrArg Value.bool ?_; simp only [*, Bool.not_true, Bool.not_false, Bool.and_true, Bool.true_and, Bool.false_and, Bool.and_false])
theorem regM_iff (f : Nat → Int) (xs : List Sm) : regB f (xs.map Sm.s) = true ↔ mayVB f = true ∧ xs.length ≤ 8 ∧ ∀ j (h : j < xs.length), hasB f xs[j].s.r xs[j].s.n = true ∧ okV xs[j].s.v = true ∧ ∀ h0 : 0 < j, lessC (dotM (xs[j - 1]'(by omega))) (dotM xs[j]) = true := by
  unfold regB
  rw [Bool.and_eq_true, checkM_iff, List.all_eq_true]
  constructor
  · rintro ⟨⟨h1, h2, h3⟩, h4⟩
    exact ⟨h1, h2, fun j hj => ⟨(h3 j hj).1, h4 _ (List.mem_map_of_mem (List.getElem_mem hj)), (h3 j hj).2⟩⟩
  · rintro ⟨h1, h2, h3⟩
    refine ⟨⟨h1, h2, fun j hj => ⟨(h3 j hj).1, (h3 j hj).2.2⟩⟩, fun s hs => ?_⟩
    obtain ⟨m, hm, rfl⟩ := List.mem_map.1 hs
    obtain ⟨j, hj, rfl⟩ := List.getElem_of_mem hm
    exact (h3 j hj).2.1
theorem rlessM_c (a c : Sm) (w : World) : Fc Tryz.prog 79 [dotV a.s.r a.s.n, dotV c.s.r c.s.n] w fun v w' => v = .bool (lessC (dotM a) (dotM c)) ∧ St [] w w' [] := rless_c a.s.r a.s.n c.s.r c.s.n w
set_option maxHeartbeats 8000000 in
theorem mayReg_c (f : Nat → Int) (A : Option Addr) (c : Nat) (xs : List Sm) (w : World) (hR : RdM w A xs) (hl : xs.length ≤ 4611686018427387904) (hx : ∀ m ∈ xs, okSv m.s ∧ m.s.v.ks.length ≤ 4611686018427387904) :
    Fc Tryz.prog 43 [regV f A xs.length c] w fun v w' => v = .bool (regB f (xs.map Sm.s)) ∧ St [] w w' [] := by
  have hiff := regM_iff f xs
  have hrm := fun w => rmay_c f w
  refine fc_i TB_ok Tryz.func43 rfl (by kernel_rfl) ?_
  have hS := Sf.refl w
  have no : regB f (xs.map Sm.s) ≠ true → regB f (xs.map Sm.s) = false := fun h => by cases hc : regB f (xs.map Sm.s) <;> simp_all
  cases hm : mayVB f with
  | false =>
    rw [hm] at hrm
    rw [no (fun h => by have := (hiff.1 h).1; rw [hm] at this; cases this)]
    repeat ((conv => whnf); first | (apply q_i; focus (intro w1 hS; (conv => whnf); first | exact ⟨rfl, rfl⟩ | ((first | refine ld_f hS 0 rfl rfl ?_ | refine ldA_f hS 0 rfl rfl ?_); (conv => whnf); exact ⟨rfl, rfl⟩) | ((refine ldN_f hS 0 rfl (lb9 rfl) ?_); (conv => whnf); exact ⟨rfl, rfl⟩))) | (refine nw_f hS ?_; intro b w1 hS) | refine as_i hS ?_ | refine as_i (hS.subs (List.nil_sublist _) sb9) ?_ | refine as_i (hS.subs (List.Sublist.refl _) sb9) ?_ | refine bar_f hS ?_ | refine ld_f hS 0 rfl rfl ?_ | refine ldA_f hS 0 rfl rfl ?_ | ((first | refine stN_f hS 0 rfl (lb9 rfl) rfl rfl ?_ | refine stM_f hS 0 rfl (lb9 rfl) rfl ?_); (conv => whnf); intro w1 hS) | (refine fc_m (hrm _) ?_; rintro v w3 ⟨rfl, hS'⟩; replace hS := hS.call0 hS') | refine ldN_f hS 0 rfl (lb9 rfl) ?_ | (refine dr9 hS ?_; intro w1 hS) | refine br_t (by assumption) ?_ | refine br_f (by assumption) ?_)
    exact ⟨rfl, hS.nil⟩
  | true =>
    rw [hm] at hrm
    by_cases h8 : 8 < xs.length
    · have g8 : decide ((8 : Int) < (xs.length : Int)) = true := decide_eq_true (by omega)
      rw [no (fun h => by have := (hiff.1 h).2.1; omega)]
      repeat ((conv => whnf); first | (apply q_i; focus (intro w1 hS; (conv => whnf); first | exact ⟨rfl, rfl⟩ | ((first | refine ld_f hS 0 rfl rfl ?_ | refine ldA_f hS 0 rfl rfl ?_); (conv => whnf); exact ⟨rfl, rfl⟩) | ((refine ldN_f hS 0 rfl (lb9 rfl) ?_); (conv => whnf); exact ⟨rfl, rfl⟩))) | (refine nw_f hS ?_; intro b w1 hS) | refine as_i hS ?_ | refine as_i (hS.subs (List.nil_sublist _) sb9) ?_ | refine as_i (hS.subs (List.Sublist.refl _) sb9) ?_ | refine bar_f hS ?_ | refine ld_f hS 0 rfl rfl ?_ | refine ldA_f hS 0 rfl rfl ?_ | ((first | refine stN_f hS 0 rfl (lb9 rfl) rfl rfl ?_ | refine stM_f hS 0 rfl (lb9 rfl) rfl ?_); (conv => whnf); intro w1 hS) | (refine fc_m (hrm _) ?_; rintro v w3 ⟨rfl, hS'⟩; replace hS := hS.call0 hS') | refine ldN_f hS 0 rfl (lb9 rfl) ?_ | (refine dr9 hS ?_; intro w1 hS) | refine br_t (by assumption) ?_ | refine br_f (by assumption) ?_)
      exact ⟨rfl, hS.nil⟩
    have g8 : decide ((8 : Int) < (xs.length : Int)) = false := decide_eq_false (by omega)
    repeat ((conv => whnf); first | (apply q_i; focus (intro w1 hS; (conv => whnf); first | exact ⟨rfl, rfl⟩ | ((first | refine ld_f hS 0 rfl rfl ?_ | refine ldA_f hS 0 rfl rfl ?_); (conv => whnf); exact ⟨rfl, rfl⟩) | ((refine ldN_f hS 0 rfl (lb9 rfl) ?_); (conv => whnf); exact ⟨rfl, rfl⟩))) | (refine nw_f hS ?_; intro b w1 hS) | refine as_i hS ?_ | refine as_i (hS.subs (List.nil_sublist _) sb9) ?_ | refine as_i (hS.subs (List.Sublist.refl _) sb9) ?_ | refine bar_f hS ?_ | refine ld_f hS 0 rfl rfl ?_ | refine ldA_f hS 0 rfl rfl ?_ | ((first | refine stN_f hS 0 rfl (lb9 rfl) rfl rfl ?_ | refine stM_f hS 0 rfl (lb9 rfl) rfl ?_); (conv => whnf); intro w1 hS) | (refine fc_m (hrm _) ?_; rintro v w3 ⟨rfl, hS'⟩; replace hS := hS.call0 hS') | refine ldN_f hS 0 rfl (lb9 rfl) ?_ | (refine dr9 hS ?_; intro w1 hS) | refine br_t (by assumption) ?_ | refine br_f (by assumption) ?_)
    refine loop_i TB_ok (fun i : Nat => [(3, .int .i64 i)]) (fun i w' => i ≤ xs.length ∧ (∀ j, j < i → ∀ h : j < xs.length, hasB f xs[j].s.r xs[j].s.n = true ∧ okV xs[j].s.v = true ∧ ∀ h0 : 0 < j, lessC (dotM (xs[j - 1]'(by omega))) (dotM xs[j]) = true) ∧ Sf [] w w' [] [_]) (fun i => xs.length - i) 0 rfl ⟨Nat.zero_le _, fun j h => by omega, hS⟩ ?_
    rintro i us w2 ⟨hi, hj, hS⟩
    by_cases hlt : i < xs.length
    · have h1 : decide ((i : Int) < (xs.length : Int)) = true := decide_eq_true (by omega)
      obtain ⟨x, off, hA⟩ := hR.rd.form (flat_ne encM_len (by omega) hlt)
      have hRA : ∀ {w' : World}, St [] w w' [] → Rd w' (some ⟨x, off, none⟩) (flat encM xs) := fun {w'} hs => by
        have := hR.rd.below hs
        rwa [hA] at this
      have hmx := List.getElem_mem hlt
      have hoi := hx _ hmx
      have hh := fun w => rhas_c f xs[i].s.r xs[i].s.n hoi.1.1.1 w
      have hcc := fun w' => rmay_v xs[i].s.v.d xs[i].s.v.n hoi.1.2.2.1.1 hoi.1.2.2.1.2 xs[i].A xs[i].c xs[i].s.v.ks w'
      have bad : ¬ (hasB f xs[i].s.r xs[i].s.n = true ∧ okV xs[i].s.v = true ∧ ∀ h0 : 0 < i, lessC (dotM (xs[i - 1]'(by omega))) (dotM xs[i]) = true) → regB f (xs.map Sm.s) = false := fun h => no fun hc => h ((hiff.1 hc).2.2 i hlt)
      cases hb : hasB f xs[i].s.r xs[i].s.n with
      | false =>
        rw [hb] at hh
        rw [bad (fun h => by have := h.1; rw [hb] at this; cases this)]
        repeat ((conv => whnf); first | (apply q_i; focus (intro w1 hS; (conv => whnf); first | exact ⟨rfl, rfl⟩ | ((first | refine ld_f hS 0 rfl rfl ?_ | refine ldA_f hS 0 rfl rfl ?_); (conv => whnf); exact ⟨rfl, rfl⟩))) | (refine nw_f hS ?_; intro b w1 hS) | refine as_i hS ?_ | refine as_i (hS.subs (List.nil_sublist _) sb9) ?_ | refine as_i (hS.subs (List.Sublist.refl _) sb9) ?_ | refine bar_f hS ?_ | refine ld_f hS 0 rfl rfl ?_ | refine ldA_f hS 0 rfl rfl ?_ | ((first | refine stN_f hS 0 rfl (lb9 rfl) rfl rfl ?_ | refine stM_f hS 0 rfl (lb9 rfl) rfl ?_); (conv => whnf); intro w1 hS) | refine br_t (by assumption) ?_ | refine br_f (by assumption) ?_)
        refine drawf TB_ok rfl (by kernel_rfl) (by kernel_rfl) hS (List.Sublist.refl _) (List.Sublist.refl _) ?_; intro w1 hS
        repeat ((conv => whnf); first | (apply q_i; focus (intro w1 hS; (conv => whnf); first | exact ⟨rfl, rfl⟩ | ((first | refine ld_f hS 0 rfl rfl ?_ | refine ldA_f hS 0 rfl rfl ?_); (conv => whnf); exact ⟨rfl, rfl⟩) | ((refine .mk ⟨by omega, by omega⟩ ?_; refine ix_i hA ?_); (conv => whnf); exact ⟨rfl, rfl⟩) | ((refine ldN_f hS 0 rfl (lb9 rfl) ?_); (conv => whnf); exact ⟨rfl, rfl⟩) | ((refine ldN_elp encM_len (hRA hS.nil).at (i := i) (j0 := 0) hlt rfl (lb9 rfl) [.int .u8 xs[i].s.r, .int .u32 xs[i].s.n] rfl ?_); (conv => whnf); exact ⟨rfl, rfl⟩) | ((refine ldN_elp encM_len (hRA hS.nil).at (i := i) (j0 := 2) hlt rfl (lb9 rfl) [.bool xs[i].s.v.d, .int .i64 xs[i].s.v.n, .slice xs[i].A xs[i].s.v.ks.length xs[i].c] rfl ?_); (conv => whnf); exact ⟨rfl, rfl⟩))) | (refine nw_f hS ?_; intro b w1 hS) | refine as_i hS ?_ | refine as_i (hS.subs (List.nil_sublist _) sb9) ?_ | refine as_i (hS.subs (List.Sublist.refl _) sb9) ?_ | refine bar_f hS ?_ | refine ld_f hS 0 rfl rfl ?_ | refine ldA_f hS 0 rfl rfl ?_ | ((first | refine stN_f hS 0 rfl (lb9 rfl) rfl rfl ?_ | refine stM_f hS 0 rfl (lb9 rfl) rfl ?_); (conv => whnf); intro w1 hS) | (refine .mk ⟨by omega, by omega⟩ ?_; refine ix_i hA ?_) | refine ldN_f hS 0 rfl (lb9 rfl) ?_ | refine ldN_elp encM_len (hRA hS.nil).at (i := i) (j0 := 0) hlt rfl (lb9 rfl) [.int .u8 xs[i].s.r, .int .u32 xs[i].s.n] rfl ?_ | refine ldN_elp encM_len (hRA hS.nil).at (i := i) (j0 := 2) hlt rfl (lb9 rfl) [.bool xs[i].s.v.d, .int .i64 xs[i].s.v.n, .slice xs[i].A xs[i].s.v.ks.length xs[i].c] rfl ?_ | (refine fc_m (hh _) ?_; rintro v w3 ⟨rfl, hS'⟩; replace hS := hS.call0 hS') | (refine fc_m (hcc _ ((hR.el _ hmx).below hS.nil) hoi.2) ?_; rintro v w3 ⟨rfl, hS'⟩; replace hS := hS.call0 hS') | (refine dr9 hS ?_; intro w1 hS) | refine br_t (by assumption) ?_ | refine br_f (by assumption) ?_)
        exact ⟨rfl, hS.nil⟩
      | true =>
        rw [hb] at hh
        cases hk : okV xs[i].s.v with
        | false =>
          rw [show okVB xs[i].s.v.d xs[i].s.v.n xs[i].s.v.ks = false from hk] at hcc
          rw [bad (fun h => by have := h.2.1; rw [hk] at this; cases this)]
          repeat ((conv => whnf); first | (apply q_i; focus (intro w1 hS; (conv => whnf); first | exact ⟨rfl, rfl⟩ | ((first | refine ld_f hS 0 rfl rfl ?_ | refine ldA_f hS 0 rfl rfl ?_); (conv => whnf); exact ⟨rfl, rfl⟩))) | (refine nw_f hS ?_; intro b w1 hS) | refine as_i hS ?_ | refine as_i (hS.subs (List.nil_sublist _) sb9) ?_ | refine as_i (hS.subs (List.Sublist.refl _) sb9) ?_ | refine bar_f hS ?_ | refine ld_f hS 0 rfl rfl ?_ | refine ldA_f hS 0 rfl rfl ?_ | ((first | refine stN_f hS 0 rfl (lb9 rfl) rfl rfl ?_ | refine stM_f hS 0 rfl (lb9 rfl) rfl ?_); (conv => whnf); intro w1 hS) | refine br_t (by assumption) ?_ | refine br_f (by assumption) ?_)
          refine drawf TB_ok rfl (by kernel_rfl) (by kernel_rfl) hS (List.Sublist.refl _) (List.Sublist.refl _) ?_; intro w1 hS
          repeat ((conv => whnf); first | (apply q_i; focus (intro w1 hS; (conv => whnf); first | exact ⟨rfl, rfl⟩ | ((first | refine ld_f hS 0 rfl rfl ?_ | refine ldA_f hS 0 rfl rfl ?_); (conv => whnf); exact ⟨rfl, rfl⟩) | ((refine .mk ⟨by omega, by omega⟩ ?_; refine ix_i hA ?_); (conv => whnf); exact ⟨rfl, rfl⟩) | ((refine ldN_f hS 0 rfl (lb9 rfl) ?_); (conv => whnf); exact ⟨rfl, rfl⟩) | ((refine ldN_elp encM_len (hRA hS.nil).at (i := i) (j0 := 0) hlt rfl (lb9 rfl) [.int .u8 xs[i].s.r, .int .u32 xs[i].s.n] rfl ?_); (conv => whnf); exact ⟨rfl, rfl⟩) | ((refine ldN_elp encM_len (hRA hS.nil).at (i := i) (j0 := 2) hlt rfl (lb9 rfl) [.bool xs[i].s.v.d, .int .i64 xs[i].s.v.n, .slice xs[i].A xs[i].s.v.ks.length xs[i].c] rfl ?_); (conv => whnf); exact ⟨rfl, rfl⟩))) | (refine nw_f hS ?_; intro b w1 hS) | refine as_i hS ?_ | refine as_i (hS.subs (List.nil_sublist _) sb9) ?_ | refine as_i (hS.subs (List.Sublist.refl _) sb9) ?_ | refine bar_f hS ?_ | refine ld_f hS 0 rfl rfl ?_ | refine ldA_f hS 0 rfl rfl ?_ | ((first | refine stN_f hS 0 rfl (lb9 rfl) rfl rfl ?_ | refine stM_f hS 0 rfl (lb9 rfl) rfl ?_); (conv => whnf); intro w1 hS) | (refine .mk ⟨by omega, by omega⟩ ?_; refine ix_i hA ?_) | refine ldN_f hS 0 rfl (lb9 rfl) ?_ | refine ldN_elp encM_len (hRA hS.nil).at (i := i) (j0 := 0) hlt rfl (lb9 rfl) [.int .u8 xs[i].s.r, .int .u32 xs[i].s.n] rfl ?_ | refine ldN_elp encM_len (hRA hS.nil).at (i := i) (j0 := 2) hlt rfl (lb9 rfl) [.bool xs[i].s.v.d, .int .i64 xs[i].s.v.n, .slice xs[i].A xs[i].s.v.ks.length xs[i].c] rfl ?_ | (refine fc_m (hh _) ?_; rintro v w3 ⟨rfl, hS'⟩; replace hS := hS.call0 hS') | (refine fc_m (hcc _ ((hR.el _ hmx).below hS.nil) hoi.2) ?_; rintro v w3 ⟨rfl, hS'⟩; replace hS := hS.call0 hS') | (refine dr9 hS ?_; intro w1 hS) | refine br_t (by assumption) ?_ | refine br_f (by assumption) ?_)
          exact ⟨rfl, hS.nil⟩
        | true =>
          rw [show okVB xs[i].s.v.d xs[i].s.v.n xs[i].s.v.ks = true from hk] at hcc
          by_cases h0 : 0 < i
          · have g0 : decide ((0 : Int) < (i : Int)) = true := decide_eq_true (by omega)
            have hw : IntKind.i64.wrap ((i : Int) - 1) = (i : Int) - 1 := wrap_i64 (by omega) (by omega)
            have hlt1 : i - 1 < xs.length := by omega
            have hol := fun w => rlessM_c xs[i - 1] xs[i] w
            cases hll : lessC (dotM xs[i - 1]) (dotM xs[i]) with
            | false =>
              rw [hll] at hol
              rw [bad (fun h => by have := h.2.2 h0; rw [hll] at this; cases this)]
              repeat ((conv => whnf); first | (apply q_i; focus (intro w1 hS; (conv => whnf); first | exact ⟨rfl, rfl⟩ | ((first | refine ld_f hS 0 rfl rfl ?_ | refine ldA_f hS 0 rfl rfl ?_); (conv => whnf); exact ⟨rfl, rfl⟩))) | (refine nw_f hS ?_; intro b w1 hS) | refine as_i hS ?_ | refine as_i (hS.subs (List.nil_sublist _) sb9) ?_ | refine as_i (hS.subs (List.Sublist.refl _) sb9) ?_ | refine bar_f hS ?_ | refine ld_f hS 0 rfl rfl ?_ | refine ldA_f hS 0 rfl rfl ?_ | ((first | refine stN_f hS 0 rfl (lb9 rfl) rfl rfl ?_ | refine stM_f hS 0 rfl (lb9 rfl) rfl ?_); (conv => whnf); intro w1 hS) | refine br_t (by assumption) ?_ | refine br_f (by assumption) ?_)
              refine drawf TB_ok rfl (by kernel_rfl) (by kernel_rfl) hS (List.Sublist.refl _) (List.Sublist.refl _) ?_; intro w1 hS
              repeat ((conv => whnf); first | (apply q_i; focus (intro w1 hS; (conv => whnf); first | exact ⟨rfl, rfl⟩ | ((first | refine ld_f hS 0 rfl rfl ?_ | refine ldA_f hS 0 rfl rfl ?_); (conv => whnf); exact ⟨rfl, rfl⟩) | ((refine .mk ⟨by omega, by omega⟩ ?_; refine ix_i hA ?_); (conv => whnf); exact ⟨rfl, rfl⟩) | ((refine ldN_f hS 0 rfl (lb9 rfl) ?_); (conv => whnf); exact ⟨rfl, rfl⟩) | ((refine ldN_elp encM_len (hRA hS.nil).at (i := i) (j0 := 0) hlt rfl (lb9 rfl) [.int .u8 xs[i].s.r, .int .u32 xs[i].s.n] rfl ?_); (conv => whnf); exact ⟨rfl, rfl⟩) | ((refine ldN_elp encM_len (hRA hS.nil).at (i := i) (j0 := 2) hlt rfl (lb9 rfl) [.bool xs[i].s.v.d, .int .i64 xs[i].s.v.n, .slice xs[i].A xs[i].s.v.ks.length xs[i].c] rfl ?_); (conv => whnf); exact ⟨rfl, rfl⟩) | ((refine ldN_elp encM_len (hRA hS.nil).at (i := i - 1) (j0 := 0) hlt1 (by show off + (IntKind.i64.wrap ((i : Int) - 1)).toNat * 5 = off + (i - 1) * 5 + 0; omega) (lb9 rfl) [.int .u8 xs[i - 1].s.r, .int .u32 xs[i - 1].s.n] rfl ?_); (conv => whnf); exact ⟨rfl, rfl⟩))) | (refine nw_f hS ?_; intro b w1 hS) | refine as_i hS ?_ | refine as_i (hS.subs (List.nil_sublist _) sb9) ?_ | refine as_i (hS.subs (List.Sublist.refl _) sb9) ?_ | refine bar_f hS ?_ | refine ld_f hS 0 rfl rfl ?_ | refine ldA_f hS 0 rfl rfl ?_ | ((first | refine stN_f hS 0 rfl (lb9 rfl) rfl rfl ?_ | refine stM_f hS 0 rfl (lb9 rfl) rfl ?_); (conv => whnf); intro w1 hS) | (refine .mk ⟨by omega, by omega⟩ ?_; refine ix_i hA ?_) | refine ldN_f hS 0 rfl (lb9 rfl) ?_ | refine ldN_elp encM_len (hRA hS.nil).at (i := i) (j0 := 0) hlt rfl (lb9 rfl) [.int .u8 xs[i].s.r, .int .u32 xs[i].s.n] rfl ?_ | refine ldN_elp encM_len (hRA hS.nil).at (i := i) (j0 := 2) hlt rfl (lb9 rfl) [.bool xs[i].s.v.d, .int .i64 xs[i].s.v.n, .slice xs[i].A xs[i].s.v.ks.length xs[i].c] rfl ?_ | (refine fc_m (hh _) ?_; rintro v w3 ⟨rfl, hS'⟩; replace hS := hS.call0 hS') | (refine fc_m (hcc _ ((hR.el _ hmx).below hS.nil) hoi.2) ?_; rintro v w3 ⟨rfl, hS'⟩; replace hS := hS.call0 hS') | (refine ldN_elp encM_len (hRA hS.nil).at (i := i - 1) (j0 := 0) hlt1 (by show off + (IntKind.i64.wrap ((i : Int) - 1)).toNat * 5 = off + (i - 1) * 5 + 0; omega) (lb9 rfl) [.int .u8 xs[i - 1].s.r, .int .u32 xs[i - 1].s.n] rfl ?_) | (refine fc_m (hol _) ?_; rintro v w3 ⟨rfl, hS'⟩; replace hS := hS.call0 hS') | (refine dr9 hS ?_; intro w1 hS) | refine br_t (by assumption) ?_ | refine br_f (by assumption) ?_)
              exact ⟨rfl, hS.nil⟩
            | true =>
              rw [hll] at hol
              repeat ((conv => whnf); first | (apply q_i; focus (intro w1 hS; (conv => whnf); first | exact ⟨rfl, rfl⟩ | ((first | refine ld_f hS 0 rfl rfl ?_ | refine ldA_f hS 0 rfl rfl ?_); (conv => whnf); exact ⟨rfl, rfl⟩))) | (refine nw_f hS ?_; intro b w1 hS) | refine as_i hS ?_ | refine as_i (hS.subs (List.nil_sublist _) sb9) ?_ | refine as_i (hS.subs (List.Sublist.refl _) sb9) ?_ | refine bar_f hS ?_ | refine ld_f hS 0 rfl rfl ?_ | refine ldA_f hS 0 rfl rfl ?_ | ((first | refine stN_f hS 0 rfl (lb9 rfl) rfl rfl ?_ | refine stM_f hS 0 rfl (lb9 rfl) rfl ?_); (conv => whnf); intro w1 hS) | refine br_t (by assumption) ?_ | refine br_f (by assumption) ?_)
              refine drawf TB_ok rfl (by kernel_rfl) (by kernel_rfl) hS (List.Sublist.refl _) (List.Sublist.refl _) ?_; intro w1 hS
              repeat ((conv => whnf); first | (apply q_i; focus (intro w1 hS; (conv => whnf); first | exact ⟨rfl, rfl⟩ | ((first | refine ld_f hS 0 rfl rfl ?_ | refine ldA_f hS 0 rfl rfl ?_); (conv => whnf); exact ⟨rfl, rfl⟩) | ((refine .mk ⟨by omega, by omega⟩ ?_; refine ix_i hA ?_); (conv => whnf); exact ⟨rfl, rfl⟩) | ((refine ldN_f hS 0 rfl (lb9 rfl) ?_); (conv => whnf); exact ⟨rfl, rfl⟩) | ((refine ldN_elp encM_len (hRA hS.nil).at (i := i) (j0 := 0) hlt rfl (lb9 rfl) [.int .u8 xs[i].s.r, .int .u32 xs[i].s.n] rfl ?_); (conv => whnf); exact ⟨rfl, rfl⟩) | ((refine ldN_elp encM_len (hRA hS.nil).at (i := i) (j0 := 2) hlt rfl (lb9 rfl) [.bool xs[i].s.v.d, .int .i64 xs[i].s.v.n, .slice xs[i].A xs[i].s.v.ks.length xs[i].c] rfl ?_); (conv => whnf); exact ⟨rfl, rfl⟩) | ((refine ldN_elp encM_len (hRA hS.nil).at (i := i - 1) (j0 := 0) hlt1 (by show off + (IntKind.i64.wrap ((i : Int) - 1)).toNat * 5 = off + (i - 1) * 5 + 0; omega) (lb9 rfl) [.int .u8 xs[i - 1].s.r, .int .u32 xs[i - 1].s.n] rfl ?_); (conv => whnf); exact ⟨rfl, rfl⟩))) | (refine nw_f hS ?_; intro b w1 hS) | refine as_i hS ?_ | refine as_i (hS.subs (List.nil_sublist _) sb9) ?_ | refine as_i (hS.subs (List.Sublist.refl _) sb9) ?_ | refine bar_f hS ?_ | refine ld_f hS 0 rfl rfl ?_ | refine ldA_f hS 0 rfl rfl ?_ | ((first | refine stN_f hS 0 rfl (lb9 rfl) rfl rfl ?_ | refine stM_f hS 0 rfl (lb9 rfl) rfl ?_); (conv => whnf); intro w1 hS) | (refine .mk ⟨by omega, by omega⟩ ?_; refine ix_i hA ?_) | refine ldN_f hS 0 rfl (lb9 rfl) ?_ | refine ldN_elp encM_len (hRA hS.nil).at (i := i) (j0 := 0) hlt rfl (lb9 rfl) [.int .u8 xs[i].s.r, .int .u32 xs[i].s.n] rfl ?_ | refine ldN_elp encM_len (hRA hS.nil).at (i := i) (j0 := 2) hlt rfl (lb9 rfl) [.bool xs[i].s.v.d, .int .i64 xs[i].s.v.n, .slice xs[i].A xs[i].s.v.ks.length xs[i].c] rfl ?_ | (refine fc_m (hh _) ?_; rintro v w3 ⟨rfl, hS'⟩; replace hS := hS.call0 hS') | (refine fc_m (hcc _ ((hR.el _ hmx).below hS.nil) hoi.2) ?_; rintro v w3 ⟨rfl, hS'⟩; replace hS := hS.call0 hS') | (refine ldN_elp encM_len (hRA hS.nil).at (i := i - 1) (j0 := 0) hlt1 (by show off + (IntKind.i64.wrap ((i : Int) - 1)).toNat * 5 = off + (i - 1) * 5 + 0; omega) (lb9 rfl) [.int .u8 xs[i - 1].s.r, .int .u32 xs[i - 1].s.n] rfl ?_) | (refine fc_m (hol _) ?_; rintro v w3 ⟨rfl, hS'⟩; replace hS := hS.call0 hS') | (refine dr9 hS ?_; intro w1 hS) | refine br_t (by assumption) ?_ | refine br_f (by assumption) ?_)
              refine ⟨rfl, i + 1, ?_, ⟨by omega, fun j h => ?_, hS⟩, by omega⟩
              · rw [wi hlt (by omega)]
                rfl
              · by_cases e : j = i
                · subst e; exact fun _ => ⟨hb, hk, fun _ => hll⟩
                · exact hj j (by omega)
          · have g0 : decide ((0 : Int) < (i : Int)) = false := decide_eq_false (by omega)
            repeat ((conv => whnf); first | (apply q_i; focus (intro w1 hS; (conv => whnf); first | exact ⟨rfl, rfl⟩ | ((first | refine ld_f hS 0 rfl rfl ?_ | refine ldA_f hS 0 rfl rfl ?_); (conv => whnf); exact ⟨rfl, rfl⟩))) | (refine nw_f hS ?_; intro b w1 hS) | refine as_i hS ?_ | refine as_i (hS.subs (List.nil_sublist _) sb9) ?_ | refine as_i (hS.subs (List.Sublist.refl _) sb9) ?_ | refine bar_f hS ?_ | refine ld_f hS 0 rfl rfl ?_ | refine ldA_f hS 0 rfl rfl ?_ | ((first | refine stN_f hS 0 rfl (lb9 rfl) rfl rfl ?_ | refine stM_f hS 0 rfl (lb9 rfl) rfl ?_); (conv => whnf); intro w1 hS) | refine br_t (by assumption) ?_ | refine br_f (by assumption) ?_)
            refine drawf TB_ok rfl (by kernel_rfl) (by kernel_rfl) hS (List.Sublist.refl _) (List.Sublist.refl _) ?_; intro w1 hS
            repeat ((conv => whnf); first | (apply q_i; focus (intro w1 hS; (conv => whnf); first | exact ⟨rfl, rfl⟩ | ((first | refine ld_f hS 0 rfl rfl ?_ | refine ldA_f hS 0 rfl rfl ?_); (conv => whnf); exact ⟨rfl, rfl⟩) | ((refine .mk ⟨by omega, by omega⟩ ?_; refine ix_i hA ?_); (conv => whnf); exact ⟨rfl, rfl⟩) | ((refine ldN_f hS 0 rfl (lb9 rfl) ?_); (conv => whnf); exact ⟨rfl, rfl⟩) | ((refine ldN_elp encM_len (hRA hS.nil).at (i := i) (j0 := 0) hlt rfl (lb9 rfl) [.int .u8 xs[i].s.r, .int .u32 xs[i].s.n] rfl ?_); (conv => whnf); exact ⟨rfl, rfl⟩) | ((refine ldN_elp encM_len (hRA hS.nil).at (i := i) (j0 := 2) hlt rfl (lb9 rfl) [.bool xs[i].s.v.d, .int .i64 xs[i].s.v.n, .slice xs[i].A xs[i].s.v.ks.length xs[i].c] rfl ?_); (conv => whnf); exact ⟨rfl, rfl⟩))) | (refine nw_f hS ?_; intro b w1 hS) | refine as_i hS ?_ | refine as_i (hS.subs (List.nil_sublist _) sb9) ?_ | refine as_i (hS.subs (List.Sublist.refl _) sb9) ?_ | refine bar_f hS ?_ | refine ld_f hS 0 rfl rfl ?_ | refine ldA_f hS 0 rfl rfl ?_ | ((first | refine stN_f hS 0 rfl (lb9 rfl) rfl rfl ?_ | refine stM_f hS 0 rfl (lb9 rfl) rfl ?_); (conv => whnf); intro w1 hS) | (refine .mk ⟨by omega, by omega⟩ ?_; refine ix_i hA ?_) | refine ldN_f hS 0 rfl (lb9 rfl) ?_ | refine ldN_elp encM_len (hRA hS.nil).at (i := i) (j0 := 0) hlt rfl (lb9 rfl) [.int .u8 xs[i].s.r, .int .u32 xs[i].s.n] rfl ?_ | refine ldN_elp encM_len (hRA hS.nil).at (i := i) (j0 := 2) hlt rfl (lb9 rfl) [.bool xs[i].s.v.d, .int .i64 xs[i].s.v.n, .slice xs[i].A xs[i].s.v.ks.length xs[i].c] rfl ?_ | (refine fc_m (hh _) ?_; rintro v w3 ⟨rfl, hS'⟩; replace hS := hS.call0 hS') | (refine fc_m (hcc _ ((hR.el _ hmx).below hS.nil) hoi.2) ?_; rintro v w3 ⟨rfl, hS'⟩; replace hS := hS.call0 hS') | (refine dr9 hS ?_; intro w1 hS) | refine br_t (by assumption) ?_ | refine br_f (by assumption) ?_)
            refine ⟨rfl, i + 1, ?_, ⟨by omega, fun j h => ?_, hS⟩, by omega⟩
            · rw [wi hlt (by omega)]
              rfl
            · by_cases e : j = i
              · subst e; exact fun _ => ⟨hb, hk, fun h => absurd h h0⟩
              · exact hj j (by omega)
    · have h1 : decide ((i : Int) < (xs.length : Int)) = false := decide_eq_false (by omega)
      rw [hiff.2 ⟨hm, by omega, fun j h => hj j (by omega) h⟩]
      repeat ((conv => whnf); first | (apply q_i; focus (intro w1 hS; (conv => whnf); first | exact ⟨rfl, rfl⟩ | ((first | refine ld_f hS 0 rfl rfl ?_ | refine ldA_f hS 0 rfl rfl ?_); (conv => whnf); exact ⟨rfl, rfl⟩))) | (refine nw_f hS ?_; intro b w1 hS) | refine as_i hS ?_ | refine as_i (hS.subs (List.nil_sublist _) sb9) ?_ | refine as_i (hS.subs (List.Sublist.refl _) sb9) ?_ | refine bar_f hS ?_ | refine ld_f hS 0 rfl rfl ?_ | refine ldA_f hS 0 rfl rfl ?_ | ((first | refine stN_f hS 0 rfl (lb9 rfl) rfl rfl ?_ | refine stM_f hS 0 rfl (lb9 rfl) rfl ?_); (conv => whnf); intro w1 hS) | (refine dr9 hS ?_; intro w1 hS) | refine br_t (by assumption) ?_ | refine br_f (by assumption) ?_)
      exact ⟨rfl, hS.nil⟩
set_option maxHeartbeats 16000000 in
theorem rMay18_c (x : Rx) (ho : okR x) (hz : fewR x) (h : Hd) (ms : List Sm) (w : World) (hx : MemR w x h ms) :
    Fc Tryz.prog 18 [recV x h] w fun v w' => v = .bool (checkR x) ∧ St [] w w' [] := by
  have hreg : ∀ w', RdM w' h.A ms → Fc Tryz.prog 43 [regV x.f h.A x.xs.length h.c] w' fun v w'' => v = .bool (regB x.f x.xs) ∧ St [] w' w'' [] := fun w' p => by
    have := mayReg_c x.f h.A h.c ms w' p (by rw [← hx.len]; have := hz.l; omega) (fun m hm => by
      have hm' : m.s ∈ x.xs := by rw [hx.eq]; exact List.mem_map_of_mem hm
      exact ⟨ho.xs _ hm', by have := hz.el _ hm'; omega⟩)
    rwa [← hx.eq, ← hx.len] at this
  have hs := fun (w' : World) (p : MemR w' x h ms) => rSame18_c x (needR x) h (needH x h) ms (needM x ms) w' p p.need (by have := hz.l; omega) (fun s hs => by have := hz.el s hs; omega) (by have := hz.v; omega)
  have hva := fun (w' : World) p => rmay_v x.v.d x.v.n ho.v.1.1 ho.v.1.2 h.B h.e x.v.ks w' p (by have := hz.v; omega)
  have hpn := hz.p
  have hck : checkR x = (mayR x && sameR x (needR x)) := rfl
  rw [hck]
  clear hck
  rcases kinds x.k with hk | hk | hk | hk | hk | hk | hk | hk | hk
  · have hm : mayR x = decide (x.r ≤ 7) := by
      unfold mayR
      rw [if_pos hk]
      exact decide_eq_decide.2 (by omega)
    have hn : needR x = { zeroRx x.k with r := x.r } := by
      unfold needR
      rw [if_pos hk]
    have hh : needH x h = noHd := by
      unfold needH
      rw [if_neg (by omega), if_neg (by omega)]
    rw [hm]
    rw [hn, hh] at hs
    rw [hn]
    clear hm hn hh
    have g1 : (x.k == 1) = true := by rw [hk]; rfl
    have g2 : (x.k == 2) = false := by rw [hk]; rfl
    have g3 : (x.k == 3) = false := by rw [hk]; rfl
    have g4 : (x.k == 4) = false := by rw [hk]; rfl
    have g5 : (x.k == 5) = false := by rw [hk]; rfl
    have g6 : (x.k == 6) = false := by rw [hk]; rfl
    have g7 : (x.k == 7) = false := by rw [hk]; rfl
    have g8 : (x.k == 8) = false := by rw [hk]; rfl
    generalize sameR x ({ zeroRx x.k with r := x.r }) = q at *
    refine fc_i TB_ok Tryz.func18 rfl (by kernel_rfl) ?_
    have hS := Sf.refl w
    repeat' ((conv => whnf); first | refine And.intro ?_ ?_ | (apply q_i; focus (intro w1 hS; (conv => whnf); first | exact ⟨rfl, rfl⟩ | ((first | refine ld_f hS 0 rfl rfl ?_ | refine ld_f hS 1 rfl rfl ?_ | refine ld_f hS 2 rfl rfl ?_ | refine ldA_f hS 0 rfl rfl ?_ | refine ldA_f hS 1 rfl rfl ?_ | refine ldA_f hS 2 rfl rfl ?_); (conv => whnf); exact ⟨rfl, rfl⟩) | ((refine ldN_f hS 0 rfl (lb9 rfl) ?_); (conv => whnf); exact ⟨rfl, rfl⟩) | ((refine ldN_f hS 1 rfl (lb9 rfl) ?_); (conv => whnf); exact ⟨rfl, rfl⟩) | ((refine ldN_f hS 2 rfl (lb9 rfl) ?_); (conv => whnf); exact ⟨rfl, rfl⟩) | ((refine .mk ⟨by omega, by omega⟩ ?_); (conv => whnf); exact ⟨rfl, rfl⟩) | ((refine br_t (by assumption) ?_); (conv => whnf); exact ⟨rfl, rfl⟩) | ((refine br_f (by assumption) ?_); (conv => whnf); exact ⟨rfl, rfl⟩) | ((refine br_i (fun _ => ?_) (fun _ => ?_)); (conv => whnf); exact ⟨rfl, rfl⟩))) | (refine nw_f hS ?_; intro b w1 hS) | refine as_i hS ?_ | refine as_i (hS.subs (List.nil_sublist _) sb9) ?_ | refine as_i (hS.subs (List.Sublist.refl _) sb9) ?_ | refine bar_f hS ?_ | refine ld_f hS 0 rfl rfl ?_ | refine ld_f hS 1 rfl rfl ?_ | refine ld_f hS 2 rfl rfl ?_ | refine ldA_f hS 0 rfl rfl ?_ | refine ldA_f hS 1 rfl rfl ?_ | refine ldA_f hS 2 rfl rfl ?_ | ((first | refine stN_f hS 0 rfl (lb9 rfl) rfl rfl ?_ | refine stN_f hS 1 rfl (lb9 rfl) rfl rfl ?_ | refine stN_f hS 2 rfl (lb9 rfl) rfl rfl ?_ | refine stM_f hS 0 rfl (lb9 rfl) rfl ?_ | refine stM_f hS 1 rfl (lb9 rfl) rfl ?_ | refine stM_f hS 2 rfl (lb9 rfl) rfl ?_); (conv => whnf); intro w1 hS) | refine ldN_f hS 0 rfl (lb9 rfl) ?_ | refine ldN_f hS 1 rfl (lb9 rfl) ?_ | refine ldN_f hS 2 rfl (lb9 rfl) ?_ | (refine fc_m (named_c x.p (by omega) _) ?_; rintro v w3 ⟨rfl, hS'⟩; replace hS := hS.call0 hS') | (refine fc_m (hreg _ (hx.l.below hS.nil)) ?_; rintro v w3 ⟨rfl, hS'⟩; replace hS := hS.call0 hS') | (refine fc_m (hva _ (hx.v.below hS.nil)) ?_; rintro v w3 ⟨rfl, hS'⟩; replace hS := hS.call0 hS') | (refine fc_m (rmay_c x.g _) ?_; rintro v w3 ⟨rfl, hS'⟩; replace hS := hS.call0 hS') | (refine fc_m (hs _ (hx.below hS.nil)) ?_; rintro v w3 ⟨rfl, hS'⟩; replace hS := hS.call0 hS') | refine .mk ⟨by omega, by omega⟩ ?_ | refine br_t (by assumption) ?_ | refine br_f (by assumption) ?_ | (refine br_i (fun _ => ?_) (fun _ => ?_)) | (refine dr9 hS ?_; intro w1 hS) | refine br_t (by assumption) ?_ | refine br_f (by assumption) ?_)
    all_goals first
      | exact hS.nil
      | rfl
      | (refine congrArg Value.bool ?_; simp only [*, Bool.not_true, Bool.not_false, Bool.and_true, Bool.true_and, Bool.false_and, Bool.and_false, Bool.or_true, Bool.true_or, Bool.or_false, Bool.false_or])
  · have hm : mayR x = (decide (x.n0 ≤ 1073741824) && (decide (1 ≤ x.n1) && decide (1 ≤ x.n2))) := by
      unfold mayR
      rw [if_neg (by omega), if_pos hk]
      exact rfl
    have hn : needR x = { zeroRx x.k with n0 := x.n0, n1 := x.n1, n2 := x.n2 } := by
      unfold needR
      rw [if_neg (by omega), if_pos hk]
    have hh : needH x h = noHd := by
      unfold needH
      rw [if_neg (by omega), if_neg (by omega)]
    rw [hm]
    rw [hn, hh] at hs
    rw [hn]
    clear hm hn hh
    have g1 : (x.k == 1) = false := by rw [hk]; rfl
    have g2 : (x.k == 2) = true := by rw [hk]; rfl
    have g3 : (x.k == 3) = false := by rw [hk]; rfl
    have g4 : (x.k == 4) = false := by rw [hk]; rfl
    have g5 : (x.k == 5) = false := by rw [hk]; rfl
    have g6 : (x.k == 6) = false := by rw [hk]; rfl
    have g7 : (x.k == 7) = false := by rw [hk]; rfl
    have g8 : (x.k == 8) = false := by rw [hk]; rfl
    generalize sameR x ({ zeroRx x.k with n0 := x.n0, n1 := x.n1, n2 := x.n2 }) = q at *
    refine fc_i TB_ok Tryz.func18 rfl (by kernel_rfl) ?_
    have hS := Sf.refl w
    repeat' ((conv => whnf); first | refine And.intro ?_ ?_ | (apply q_i; focus (intro w1 hS; (conv => whnf); first | exact ⟨rfl, rfl⟩ | ((first | refine ld_f hS 0 rfl rfl ?_ | refine ld_f hS 1 rfl rfl ?_ | refine ld_f hS 2 rfl rfl ?_ | refine ldA_f hS 0 rfl rfl ?_ | refine ldA_f hS 1 rfl rfl ?_ | refine ldA_f hS 2 rfl rfl ?_); (conv => whnf); exact ⟨rfl, rfl⟩) | ((refine ldN_f hS 0 rfl (lb9 rfl) ?_); (conv => whnf); exact ⟨rfl, rfl⟩) | ((refine ldN_f hS 1 rfl (lb9 rfl) ?_); (conv => whnf); exact ⟨rfl, rfl⟩) | ((refine ldN_f hS 2 rfl (lb9 rfl) ?_); (conv => whnf); exact ⟨rfl, rfl⟩) | ((refine .mk ⟨by omega, by omega⟩ ?_); (conv => whnf); exact ⟨rfl, rfl⟩) | ((refine br_t (by assumption) ?_); (conv => whnf); exact ⟨rfl, rfl⟩) | ((refine br_f (by assumption) ?_); (conv => whnf); exact ⟨rfl, rfl⟩) | ((refine br_i (fun _ => ?_) (fun _ => ?_)); (conv => whnf); exact ⟨rfl, rfl⟩))) | (refine nw_f hS ?_; intro b w1 hS) | refine as_i hS ?_ | refine as_i (hS.subs (List.nil_sublist _) sb9) ?_ | refine as_i (hS.subs (List.Sublist.refl _) sb9) ?_ | refine bar_f hS ?_ | refine ld_f hS 0 rfl rfl ?_ | refine ld_f hS 1 rfl rfl ?_ | refine ld_f hS 2 rfl rfl ?_ | refine ldA_f hS 0 rfl rfl ?_ | refine ldA_f hS 1 rfl rfl ?_ | refine ldA_f hS 2 rfl rfl ?_ | ((first | refine stN_f hS 0 rfl (lb9 rfl) rfl rfl ?_ | refine stN_f hS 1 rfl (lb9 rfl) rfl rfl ?_ | refine stN_f hS 2 rfl (lb9 rfl) rfl rfl ?_ | refine stM_f hS 0 rfl (lb9 rfl) rfl ?_ | refine stM_f hS 1 rfl (lb9 rfl) rfl ?_ | refine stM_f hS 2 rfl (lb9 rfl) rfl ?_); (conv => whnf); intro w1 hS) | refine ldN_f hS 0 rfl (lb9 rfl) ?_ | refine ldN_f hS 1 rfl (lb9 rfl) ?_ | refine ldN_f hS 2 rfl (lb9 rfl) ?_ | (refine fc_m (named_c x.p (by omega) _) ?_; rintro v w3 ⟨rfl, hS'⟩; replace hS := hS.call0 hS') | (refine fc_m (hreg _ (hx.l.below hS.nil)) ?_; rintro v w3 ⟨rfl, hS'⟩; replace hS := hS.call0 hS') | (refine fc_m (hva _ (hx.v.below hS.nil)) ?_; rintro v w3 ⟨rfl, hS'⟩; replace hS := hS.call0 hS') | (refine fc_m (rmay_c x.g _) ?_; rintro v w3 ⟨rfl, hS'⟩; replace hS := hS.call0 hS') | (refine fc_m (hs _ (hx.below hS.nil)) ?_; rintro v w3 ⟨rfl, hS'⟩; replace hS := hS.call0 hS') | refine .mk ⟨by omega, by omega⟩ ?_ | refine br_t (by assumption) ?_ | refine br_f (by assumption) ?_ | (refine br_i (fun _ => ?_) (fun _ => ?_)) | (refine dr9 hS ?_; intro w1 hS) | refine br_t (by assumption) ?_ | refine br_f (by assumption) ?_)
    all_goals first
      | exact hS.nil
      | rfl
      | (refine congrArg Value.bool ?_; simp only [*, Bool.not_true, Bool.not_false, Bool.and_true, Bool.true_and, Bool.false_and, Bool.and_false, Bool.or_true, Bool.true_or, Bool.or_false, Bool.false_or])
  · have hm : mayR x = (decide (x.rk ≤ 1) && (decide (0 ≤ x.rq) && decide (x.rq ≤ 1073741824))) := by
      unfold mayR
      rw [if_neg (by omega), if_neg (by omega), if_pos hk]
      exact rfl
    have hn : needR x = { zeroRx x.k with rk := x.rk, ra := x.ra, rq := x.rq } := by
      unfold needR
      rw [if_neg (by omega), if_neg (by omega), if_pos hk]
    have hh : needH x h = noHd := by
      unfold needH
      rw [if_neg (by omega), if_neg (by omega)]
    rw [hm]
    rw [hn, hh] at hs
    rw [hn]
    clear hm hn hh
    have g1 : (x.k == 1) = false := by rw [hk]; rfl
    have g2 : (x.k == 2) = false := by rw [hk]; rfl
    have g3 : (x.k == 3) = true := by rw [hk]; rfl
    have g4 : (x.k == 4) = false := by rw [hk]; rfl
    have g5 : (x.k == 5) = false := by rw [hk]; rfl
    have g6 : (x.k == 6) = false := by rw [hk]; rfl
    have g7 : (x.k == 7) = false := by rw [hk]; rfl
    have g8 : (x.k == 8) = false := by rw [hk]; rfl
    generalize sameR x ({ zeroRx x.k with rk := x.rk, ra := x.ra, rq := x.rq }) = q at *
    refine fc_i TB_ok Tryz.func18 rfl (by kernel_rfl) ?_
    have hS := Sf.refl w
    repeat' ((conv => whnf); first | refine And.intro ?_ ?_ | (apply q_i; focus (intro w1 hS; (conv => whnf); first | exact ⟨rfl, rfl⟩ | ((first | refine ld_f hS 0 rfl rfl ?_ | refine ld_f hS 1 rfl rfl ?_ | refine ld_f hS 2 rfl rfl ?_ | refine ldA_f hS 0 rfl rfl ?_ | refine ldA_f hS 1 rfl rfl ?_ | refine ldA_f hS 2 rfl rfl ?_); (conv => whnf); exact ⟨rfl, rfl⟩) | ((refine ldN_f hS 0 rfl (lb9 rfl) ?_); (conv => whnf); exact ⟨rfl, rfl⟩) | ((refine ldN_f hS 1 rfl (lb9 rfl) ?_); (conv => whnf); exact ⟨rfl, rfl⟩) | ((refine ldN_f hS 2 rfl (lb9 rfl) ?_); (conv => whnf); exact ⟨rfl, rfl⟩) | ((refine .mk ⟨by omega, by omega⟩ ?_); (conv => whnf); exact ⟨rfl, rfl⟩) | ((refine br_t (by assumption) ?_); (conv => whnf); exact ⟨rfl, rfl⟩) | ((refine br_f (by assumption) ?_); (conv => whnf); exact ⟨rfl, rfl⟩) | ((refine br_i (fun _ => ?_) (fun _ => ?_)); (conv => whnf); exact ⟨rfl, rfl⟩))) | (refine nw_f hS ?_; intro b w1 hS) | refine as_i hS ?_ | refine as_i (hS.subs (List.nil_sublist _) sb9) ?_ | refine as_i (hS.subs (List.Sublist.refl _) sb9) ?_ | refine bar_f hS ?_ | refine ld_f hS 0 rfl rfl ?_ | refine ld_f hS 1 rfl rfl ?_ | refine ld_f hS 2 rfl rfl ?_ | refine ldA_f hS 0 rfl rfl ?_ | refine ldA_f hS 1 rfl rfl ?_ | refine ldA_f hS 2 rfl rfl ?_ | ((first | refine stN_f hS 0 rfl (lb9 rfl) rfl rfl ?_ | refine stN_f hS 1 rfl (lb9 rfl) rfl rfl ?_ | refine stN_f hS 2 rfl (lb9 rfl) rfl rfl ?_ | refine stM_f hS 0 rfl (lb9 rfl) rfl ?_ | refine stM_f hS 1 rfl (lb9 rfl) rfl ?_ | refine stM_f hS 2 rfl (lb9 rfl) rfl ?_); (conv => whnf); intro w1 hS) | refine ldN_f hS 0 rfl (lb9 rfl) ?_ | refine ldN_f hS 1 rfl (lb9 rfl) ?_ | refine ldN_f hS 2 rfl (lb9 rfl) ?_ | (refine fc_m (named_c x.p (by omega) _) ?_; rintro v w3 ⟨rfl, hS'⟩; replace hS := hS.call0 hS') | (refine fc_m (hreg _ (hx.l.below hS.nil)) ?_; rintro v w3 ⟨rfl, hS'⟩; replace hS := hS.call0 hS') | (refine fc_m (hva _ (hx.v.below hS.nil)) ?_; rintro v w3 ⟨rfl, hS'⟩; replace hS := hS.call0 hS') | (refine fc_m (rmay_c x.g _) ?_; rintro v w3 ⟨rfl, hS'⟩; replace hS := hS.call0 hS') | (refine fc_m (hs _ (hx.below hS.nil)) ?_; rintro v w3 ⟨rfl, hS'⟩; replace hS := hS.call0 hS') | refine .mk ⟨by omega, by omega⟩ ?_ | refine br_t (by assumption) ?_ | refine br_f (by assumption) ?_ | (refine br_i (fun _ => ?_) (fun _ => ?_)) | (refine dr9 hS ?_; intro w1 hS) | refine br_t (by assumption) ?_ | refine br_f (by assumption) ?_)
    all_goals first
      | exact hS.nil
      | rfl
      | (refine congrArg Value.bool ?_; simp only [*, Bool.not_true, Bool.not_false, Bool.and_true, Bool.true_and, Bool.false_and, Bool.and_false, Bool.or_true, Bool.true_or, Bool.or_false, Bool.false_or])
  · have hm : mayR x = (namedB x.p && regB x.f x.xs) := by
      unfold mayR
      rw [if_neg (by omega), if_neg (by omega), if_neg (by omega), if_pos hk]
    have hn : needR x = { zeroRx x.k with p := x.p, f := x.f, xs := x.xs } := by
      unfold needR
      rw [if_neg (by omega), if_neg (by omega), if_neg (by omega), if_pos hk]
    have hh : needH x h = ⟨h.A, h.c, none, 0⟩ := by
      unfold needH
      rw [if_pos hk]
    rw [hm]
    rw [hn, hh] at hs
    rw [hn]
    clear hm hn hh
    have g1 : (x.k == 1) = false := by rw [hk]; rfl
    have g2 : (x.k == 2) = false := by rw [hk]; rfl
    have g3 : (x.k == 3) = false := by rw [hk]; rfl
    have g4 : (x.k == 4) = true := by rw [hk]; rfl
    have g5 : (x.k == 5) = false := by rw [hk]; rfl
    have g6 : (x.k == 6) = false := by rw [hk]; rfl
    have g7 : (x.k == 7) = false := by rw [hk]; rfl
    have g8 : (x.k == 8) = false := by rw [hk]; rfl
    generalize sameR x ({ zeroRx x.k with p := x.p, f := x.f, xs := x.xs }) = q at *
    refine fc_i TB_ok Tryz.func18 rfl (by kernel_rfl) ?_
    have hS := Sf.refl w
    repeat' ((conv => whnf); first | refine And.intro ?_ ?_ | (apply q_i; focus (intro w1 hS; (conv => whnf); first | exact ⟨rfl, rfl⟩ | ((first | refine ld_f hS 0 rfl rfl ?_ | refine ld_f hS 1 rfl rfl ?_ | refine ld_f hS 2 rfl rfl ?_ | refine ldA_f hS 0 rfl rfl ?_ | refine ldA_f hS 1 rfl rfl ?_ | refine ldA_f hS 2 rfl rfl ?_); (conv => whnf); exact ⟨rfl, rfl⟩) | ((refine ldN_f hS 0 rfl (lb9 rfl) ?_); (conv => whnf); exact ⟨rfl, rfl⟩) | ((refine ldN_f hS 1 rfl (lb9 rfl) ?_); (conv => whnf); exact ⟨rfl, rfl⟩) | ((refine ldN_f hS 2 rfl (lb9 rfl) ?_); (conv => whnf); exact ⟨rfl, rfl⟩) | ((refine .mk ⟨by omega, by omega⟩ ?_); (conv => whnf); exact ⟨rfl, rfl⟩) | ((refine br_t (by assumption) ?_); (conv => whnf); exact ⟨rfl, rfl⟩) | ((refine br_f (by assumption) ?_); (conv => whnf); exact ⟨rfl, rfl⟩) | ((refine br_i (fun _ => ?_) (fun _ => ?_)); (conv => whnf); exact ⟨rfl, rfl⟩))) | (refine nw_f hS ?_; intro b w1 hS) | refine as_i hS ?_ | refine as_i (hS.subs (List.nil_sublist _) sb9) ?_ | refine as_i (hS.subs (List.Sublist.refl _) sb9) ?_ | refine bar_f hS ?_ | refine ld_f hS 0 rfl rfl ?_ | refine ld_f hS 1 rfl rfl ?_ | refine ld_f hS 2 rfl rfl ?_ | refine ldA_f hS 0 rfl rfl ?_ | refine ldA_f hS 1 rfl rfl ?_ | refine ldA_f hS 2 rfl rfl ?_ | ((first | refine stN_f hS 0 rfl (lb9 rfl) rfl rfl ?_ | refine stN_f hS 1 rfl (lb9 rfl) rfl rfl ?_ | refine stN_f hS 2 rfl (lb9 rfl) rfl rfl ?_ | refine stM_f hS 0 rfl (lb9 rfl) rfl ?_ | refine stM_f hS 1 rfl (lb9 rfl) rfl ?_ | refine stM_f hS 2 rfl (lb9 rfl) rfl ?_); (conv => whnf); intro w1 hS) | refine ldN_f hS 0 rfl (lb9 rfl) ?_ | refine ldN_f hS 1 rfl (lb9 rfl) ?_ | refine ldN_f hS 2 rfl (lb9 rfl) ?_ | (refine fc_m (named_c x.p (by omega) _) ?_; rintro v w3 ⟨rfl, hS'⟩; replace hS := hS.call0 hS') | (refine fc_m (hreg _ (hx.l.below hS.nil)) ?_; rintro v w3 ⟨rfl, hS'⟩; replace hS := hS.call0 hS') | (refine fc_m (hva _ (hx.v.below hS.nil)) ?_; rintro v w3 ⟨rfl, hS'⟩; replace hS := hS.call0 hS') | (refine fc_m (rmay_c x.g _) ?_; rintro v w3 ⟨rfl, hS'⟩; replace hS := hS.call0 hS') | (refine fc_m (hs _ (hx.below hS.nil)) ?_; rintro v w3 ⟨rfl, hS'⟩; replace hS := hS.call0 hS') | refine .mk ⟨by omega, by omega⟩ ?_ | refine br_t (by assumption) ?_ | refine br_f (by assumption) ?_ | (refine br_i (fun _ => ?_) (fun _ => ?_)) | (refine dr9 hS ?_; intro w1 hS) | refine br_t (by assumption) ?_ | refine br_f (by assumption) ?_)
    all_goals first
      | exact hS.nil
      | rfl
      | (refine congrArg Value.bool ?_; simp only [*, Bool.not_true, Bool.not_false, Bool.and_true, Bool.true_and, Bool.false_and, Bool.and_false, Bool.or_true, Bool.true_or, Bool.or_false, Bool.false_or])
  · have hm : mayR x = (namedB x.p && (decide (1 ≤ x.vi) && (decide (x.vt ≤ 1073741824) && (decide (1 ≤ x.vc) && (decide (x.vc ≤ 4) && (!x.v.d && okVB x.v.d x.v.n x.v.ks)))))) := by
      unfold mayR
      rw [if_neg (by omega), if_neg (by omega), if_neg (by omega), if_neg (by omega), if_pos hk]
      unfold verB inB okV
      simp only [Bool.and_assoc]
      rfl
    have hn : needR x = { zeroRx x.k with p := x.p, vi := x.vi, vt := x.vt, vc := x.vc, v := x.v } := by
      unfold needR
      rw [if_neg (by omega), if_neg (by omega), if_neg (by omega), if_neg (by omega), if_pos hk]
    have hh : needH x h = ⟨none, 0, h.B, h.e⟩ := by
      unfold needH
      rw [if_neg (by omega), if_pos hk]
    rw [hm]
    rw [hn, hh] at hs
    rw [hn]
    clear hm hn hh
    have g1 : (x.k == 1) = false := by rw [hk]; rfl
    have g2 : (x.k == 2) = false := by rw [hk]; rfl
    have g3 : (x.k == 3) = false := by rw [hk]; rfl
    have g4 : (x.k == 4) = false := by rw [hk]; rfl
    have g5 : (x.k == 5) = true := by rw [hk]; rfl
    have g6 : (x.k == 6) = false := by rw [hk]; rfl
    have g7 : (x.k == 7) = false := by rw [hk]; rfl
    have g8 : (x.k == 8) = false := by rw [hk]; rfl
    generalize sameR x ({ zeroRx x.k with p := x.p, vi := x.vi, vt := x.vt, vc := x.vc, v := x.v }) = q at *
    refine fc_i TB_ok Tryz.func18 rfl (by kernel_rfl) ?_
    have hS := Sf.refl w
    repeat' ((conv => whnf); first | refine And.intro ?_ ?_ | (apply q_i; focus (intro w1 hS; (conv => whnf); first | exact ⟨rfl, rfl⟩ | ((first | refine ld_f hS 0 rfl rfl ?_ | refine ld_f hS 1 rfl rfl ?_ | refine ld_f hS 2 rfl rfl ?_ | refine ldA_f hS 0 rfl rfl ?_ | refine ldA_f hS 1 rfl rfl ?_ | refine ldA_f hS 2 rfl rfl ?_); (conv => whnf); exact ⟨rfl, rfl⟩) | ((refine ldN_f hS 0 rfl (lb9 rfl) ?_); (conv => whnf); exact ⟨rfl, rfl⟩) | ((refine ldN_f hS 1 rfl (lb9 rfl) ?_); (conv => whnf); exact ⟨rfl, rfl⟩) | ((refine ldN_f hS 2 rfl (lb9 rfl) ?_); (conv => whnf); exact ⟨rfl, rfl⟩) | ((refine .mk ⟨by omega, by omega⟩ ?_); (conv => whnf); exact ⟨rfl, rfl⟩) | ((refine br_t (by assumption) ?_); (conv => whnf); exact ⟨rfl, rfl⟩) | ((refine br_f (by assumption) ?_); (conv => whnf); exact ⟨rfl, rfl⟩) | ((refine br_i (fun _ => ?_) (fun _ => ?_)); (conv => whnf); exact ⟨rfl, rfl⟩))) | (refine nw_f hS ?_; intro b w1 hS) | refine as_i hS ?_ | refine as_i (hS.subs (List.nil_sublist _) sb9) ?_ | refine as_i (hS.subs (List.Sublist.refl _) sb9) ?_ | refine bar_f hS ?_ | refine ld_f hS 0 rfl rfl ?_ | refine ld_f hS 1 rfl rfl ?_ | refine ld_f hS 2 rfl rfl ?_ | refine ldA_f hS 0 rfl rfl ?_ | refine ldA_f hS 1 rfl rfl ?_ | refine ldA_f hS 2 rfl rfl ?_ | ((first | refine stN_f hS 0 rfl (lb9 rfl) rfl rfl ?_ | refine stN_f hS 1 rfl (lb9 rfl) rfl rfl ?_ | refine stN_f hS 2 rfl (lb9 rfl) rfl rfl ?_ | refine stM_f hS 0 rfl (lb9 rfl) rfl ?_ | refine stM_f hS 1 rfl (lb9 rfl) rfl ?_ | refine stM_f hS 2 rfl (lb9 rfl) rfl ?_); (conv => whnf); intro w1 hS) | refine ldN_f hS 0 rfl (lb9 rfl) ?_ | refine ldN_f hS 1 rfl (lb9 rfl) ?_ | refine ldN_f hS 2 rfl (lb9 rfl) ?_ | (refine fc_m (named_c x.p (by omega) _) ?_; rintro v w3 ⟨rfl, hS'⟩; replace hS := hS.call0 hS') | (refine fc_m (hreg _ (hx.l.below hS.nil)) ?_; rintro v w3 ⟨rfl, hS'⟩; replace hS := hS.call0 hS') | (refine fc_m (hva _ (hx.v.below hS.nil)) ?_; rintro v w3 ⟨rfl, hS'⟩; replace hS := hS.call0 hS') | (refine fc_m (rmay_c x.g _) ?_; rintro v w3 ⟨rfl, hS'⟩; replace hS := hS.call0 hS') | (refine fc_m (hs _ (hx.below hS.nil)) ?_; rintro v w3 ⟨rfl, hS'⟩; replace hS := hS.call0 hS') | refine .mk ⟨by omega, by omega⟩ ?_ | refine br_t (by assumption) ?_ | refine br_f (by assumption) ?_ | (refine br_i (fun _ => ?_) (fun _ => ?_)) | (refine dr9 hS ?_; intro w1 hS) | refine br_t (by assumption) ?_ | refine br_f (by assumption) ?_)
    all_goals first
      | exact hS.nil
      | rfl
      | (refine congrArg Value.bool ?_; simp only [*, Bool.not_true, Bool.not_false, Bool.and_true, Bool.true_and, Bool.false_and, Bool.and_false, Bool.or_true, Bool.true_or, Bool.or_false, Bool.false_or])
  · have hm : mayR x = decide (1 ≤ x.vi) := by
      unfold mayR
      rw [if_neg (by omega), if_neg (by omega), if_neg (by omega), if_neg (by omega), if_neg (by omega), if_pos hk]
      exact rfl
    have hn : needR x = { zeroRx x.k with vi := x.vi } := by
      unfold needR
      rw [if_neg (by omega), if_neg (by omega), if_neg (by omega), if_neg (by omega), if_neg (by omega), if_pos hk]
    have hh : needH x h = noHd := by
      unfold needH
      rw [if_neg (by omega), if_neg (by omega)]
    rw [hm]
    rw [hn, hh] at hs
    rw [hn]
    clear hm hn hh
    have g1 : (x.k == 1) = false := by rw [hk]; rfl
    have g2 : (x.k == 2) = false := by rw [hk]; rfl
    have g3 : (x.k == 3) = false := by rw [hk]; rfl
    have g4 : (x.k == 4) = false := by rw [hk]; rfl
    have g5 : (x.k == 5) = false := by rw [hk]; rfl
    have g6 : (x.k == 6) = true := by rw [hk]; rfl
    have g7 : (x.k == 7) = false := by rw [hk]; rfl
    have g8 : (x.k == 8) = false := by rw [hk]; rfl
    generalize sameR x ({ zeroRx x.k with vi := x.vi }) = q at *
    refine fc_i TB_ok Tryz.func18 rfl (by kernel_rfl) ?_
    have hS := Sf.refl w
    repeat' ((conv => whnf); first | refine And.intro ?_ ?_ | (apply q_i; focus (intro w1 hS; (conv => whnf); first | exact ⟨rfl, rfl⟩ | ((first | refine ld_f hS 0 rfl rfl ?_ | refine ld_f hS 1 rfl rfl ?_ | refine ld_f hS 2 rfl rfl ?_ | refine ldA_f hS 0 rfl rfl ?_ | refine ldA_f hS 1 rfl rfl ?_ | refine ldA_f hS 2 rfl rfl ?_); (conv => whnf); exact ⟨rfl, rfl⟩) | ((refine ldN_f hS 0 rfl (lb9 rfl) ?_); (conv => whnf); exact ⟨rfl, rfl⟩) | ((refine ldN_f hS 1 rfl (lb9 rfl) ?_); (conv => whnf); exact ⟨rfl, rfl⟩) | ((refine ldN_f hS 2 rfl (lb9 rfl) ?_); (conv => whnf); exact ⟨rfl, rfl⟩) | ((refine .mk ⟨by omega, by omega⟩ ?_); (conv => whnf); exact ⟨rfl, rfl⟩) | ((refine br_t (by assumption) ?_); (conv => whnf); exact ⟨rfl, rfl⟩) | ((refine br_f (by assumption) ?_); (conv => whnf); exact ⟨rfl, rfl⟩) | ((refine br_i (fun _ => ?_) (fun _ => ?_)); (conv => whnf); exact ⟨rfl, rfl⟩))) | (refine nw_f hS ?_; intro b w1 hS) | refine as_i hS ?_ | refine as_i (hS.subs (List.nil_sublist _) sb9) ?_ | refine as_i (hS.subs (List.Sublist.refl _) sb9) ?_ | refine bar_f hS ?_ | refine ld_f hS 0 rfl rfl ?_ | refine ld_f hS 1 rfl rfl ?_ | refine ld_f hS 2 rfl rfl ?_ | refine ldA_f hS 0 rfl rfl ?_ | refine ldA_f hS 1 rfl rfl ?_ | refine ldA_f hS 2 rfl rfl ?_ | ((first | refine stN_f hS 0 rfl (lb9 rfl) rfl rfl ?_ | refine stN_f hS 1 rfl (lb9 rfl) rfl rfl ?_ | refine stN_f hS 2 rfl (lb9 rfl) rfl rfl ?_ | refine stM_f hS 0 rfl (lb9 rfl) rfl ?_ | refine stM_f hS 1 rfl (lb9 rfl) rfl ?_ | refine stM_f hS 2 rfl (lb9 rfl) rfl ?_); (conv => whnf); intro w1 hS) | refine ldN_f hS 0 rfl (lb9 rfl) ?_ | refine ldN_f hS 1 rfl (lb9 rfl) ?_ | refine ldN_f hS 2 rfl (lb9 rfl) ?_ | (refine fc_m (named_c x.p (by omega) _) ?_; rintro v w3 ⟨rfl, hS'⟩; replace hS := hS.call0 hS') | (refine fc_m (hreg _ (hx.l.below hS.nil)) ?_; rintro v w3 ⟨rfl, hS'⟩; replace hS := hS.call0 hS') | (refine fc_m (hva _ (hx.v.below hS.nil)) ?_; rintro v w3 ⟨rfl, hS'⟩; replace hS := hS.call0 hS') | (refine fc_m (rmay_c x.g _) ?_; rintro v w3 ⟨rfl, hS'⟩; replace hS := hS.call0 hS') | (refine fc_m (hs _ (hx.below hS.nil)) ?_; rintro v w3 ⟨rfl, hS'⟩; replace hS := hS.call0 hS') | refine .mk ⟨by omega, by omega⟩ ?_ | refine br_t (by assumption) ?_ | refine br_f (by assumption) ?_ | (refine br_i (fun _ => ?_) (fun _ => ?_)) | (refine dr9 hS ?_; intro w1 hS) | refine br_t (by assumption) ?_ | refine br_f (by assumption) ?_)
    all_goals first
      | exact hS.nil
      | rfl
      | (refine congrArg Value.bool ?_; simp only [*, Bool.not_true, Bool.not_false, Bool.and_true, Bool.true_and, Bool.false_and, Bool.and_false, Bool.or_true, Bool.true_or, Bool.or_false, Bool.false_or])
  · have hm : mayR x = (decide (1 ≤ x.ci) && (((x.cb == 0) && ((x.cr == 0) && (x.cs == 0))) || (decide (0 ≤ x.cb) && (decide (x.cb ≤ 2047) && (decide (1 ≤ x.cr) && (decide (x.cr ≤ 65535) && (decide (1 ≤ x.cs) && decide (x.cs ≤ 64)))))))) := by
      unfold mayR
      rw [if_neg (by omega), if_neg (by omega), if_neg (by omega), if_neg (by omega), if_neg (by omega), if_neg (by omega), if_pos hk]
      unfold chunkB inB
      have hci := ho.ci
      rw [Bool.eq_iff_iff]
      split <;> simp only [Bool.and_eq_true, Bool.or_eq_true, decide_eq_true_eq, beq_iff_eq] <;> omega
    have hn : needR x = { zeroRx x.k with ci := x.ci, cb := x.cb, cr := x.cr, cs := x.cs } := by
      unfold needR
      rw [if_neg (by omega), if_neg (by omega), if_neg (by omega), if_neg (by omega), if_neg (by omega), if_neg (by omega), if_pos hk]
    have hh : needH x h = noHd := by
      unfold needH
      rw [if_neg (by omega), if_neg (by omega)]
    rw [hm]
    rw [hn, hh] at hs
    rw [hn]
    clear hm hn hh
    have g1 : (x.k == 1) = false := by rw [hk]; rfl
    have g2 : (x.k == 2) = false := by rw [hk]; rfl
    have g3 : (x.k == 3) = false := by rw [hk]; rfl
    have g4 : (x.k == 4) = false := by rw [hk]; rfl
    have g5 : (x.k == 5) = false := by rw [hk]; rfl
    have g6 : (x.k == 6) = false := by rw [hk]; rfl
    have g7 : (x.k == 7) = true := by rw [hk]; rfl
    have g8 : (x.k == 8) = false := by rw [hk]; rfl
    generalize sameR x ({ zeroRx x.k with ci := x.ci, cb := x.cb, cr := x.cr, cs := x.cs }) = q at *
    refine fc_i TB_ok Tryz.func18 rfl (by kernel_rfl) ?_
    have hS := Sf.refl w
    repeat' ((conv => whnf); first | refine And.intro ?_ ?_ | (apply q_i; focus (intro w1 hS; (conv => whnf); first | exact ⟨rfl, rfl⟩ | ((first | refine ld_f hS 0 rfl rfl ?_ | refine ld_f hS 1 rfl rfl ?_ | refine ld_f hS 2 rfl rfl ?_ | refine ldA_f hS 0 rfl rfl ?_ | refine ldA_f hS 1 rfl rfl ?_ | refine ldA_f hS 2 rfl rfl ?_); (conv => whnf); exact ⟨rfl, rfl⟩) | ((refine ldN_f hS 0 rfl (lb9 rfl) ?_); (conv => whnf); exact ⟨rfl, rfl⟩) | ((refine ldN_f hS 1 rfl (lb9 rfl) ?_); (conv => whnf); exact ⟨rfl, rfl⟩) | ((refine ldN_f hS 2 rfl (lb9 rfl) ?_); (conv => whnf); exact ⟨rfl, rfl⟩) | ((refine .mk ⟨by omega, by omega⟩ ?_); (conv => whnf); exact ⟨rfl, rfl⟩) | ((refine br_t (by assumption) ?_); (conv => whnf); exact ⟨rfl, rfl⟩) | ((refine br_f (by assumption) ?_); (conv => whnf); exact ⟨rfl, rfl⟩) | ((refine br_i (fun _ => ?_) (fun _ => ?_)); (conv => whnf); exact ⟨rfl, rfl⟩))) | (refine nw_f hS ?_; intro b w1 hS) | refine as_i hS ?_ | refine as_i (hS.subs (List.nil_sublist _) sb9) ?_ | refine as_i (hS.subs (List.Sublist.refl _) sb9) ?_ | refine bar_f hS ?_ | refine ld_f hS 0 rfl rfl ?_ | refine ld_f hS 1 rfl rfl ?_ | refine ld_f hS 2 rfl rfl ?_ | refine ldA_f hS 0 rfl rfl ?_ | refine ldA_f hS 1 rfl rfl ?_ | refine ldA_f hS 2 rfl rfl ?_ | ((first | refine stN_f hS 0 rfl (lb9 rfl) rfl rfl ?_ | refine stN_f hS 1 rfl (lb9 rfl) rfl rfl ?_ | refine stN_f hS 2 rfl (lb9 rfl) rfl rfl ?_ | refine stM_f hS 0 rfl (lb9 rfl) rfl ?_ | refine stM_f hS 1 rfl (lb9 rfl) rfl ?_ | refine stM_f hS 2 rfl (lb9 rfl) rfl ?_); (conv => whnf); intro w1 hS) | refine ldN_f hS 0 rfl (lb9 rfl) ?_ | refine ldN_f hS 1 rfl (lb9 rfl) ?_ | refine ldN_f hS 2 rfl (lb9 rfl) ?_ | (refine fc_m (named_c x.p (by omega) _) ?_; rintro v w3 ⟨rfl, hS'⟩; replace hS := hS.call0 hS') | (refine fc_m (hreg _ (hx.l.below hS.nil)) ?_; rintro v w3 ⟨rfl, hS'⟩; replace hS := hS.call0 hS') | (refine fc_m (hva _ (hx.v.below hS.nil)) ?_; rintro v w3 ⟨rfl, hS'⟩; replace hS := hS.call0 hS') | (refine fc_m (rmay_c x.g _) ?_; rintro v w3 ⟨rfl, hS'⟩; replace hS := hS.call0 hS') | (refine fc_m (hs _ (hx.below hS.nil)) ?_; rintro v w3 ⟨rfl, hS'⟩; replace hS := hS.call0 hS') | refine .mk ⟨by omega, by omega⟩ ?_ | refine br_t (by assumption) ?_ | refine br_f (by assumption) ?_ | (refine br_i (fun _ => ?_) (fun _ => ?_)) | (refine dr9 hS ?_; intro w1 hS) | refine br_t (by assumption) ?_ | refine br_f (by assumption) ?_)
    all_goals first
      | exact hS.nil
      | rfl
      | (refine congrArg Value.bool ?_; simp only [*, Bool.not_true, Bool.not_false, Bool.and_true, Bool.true_and, Bool.false_and, Bool.and_false, Bool.or_true, Bool.true_or, Bool.or_false, Bool.false_or])
  · have hm : mayR x = (decide (x.r ≤ 7) && (namedB x.p && mayVB x.g)) := by
      unfold mayR
      rw [if_neg (by omega), if_neg (by omega), if_neg (by omega), if_neg (by omega), if_neg (by omega), if_neg (by omega), if_neg (by omega), if_pos hk]
      rw [decide_eq_decide.2 (show x.r < 8 ↔ x.r ≤ 7 by omega)]
    have hn : needR x = { zeroRx x.k with r := x.r, p := x.p, g := x.g } := by
      unfold needR
      rw [if_neg (by omega), if_neg (by omega), if_neg (by omega), if_neg (by omega), if_neg (by omega), if_neg (by omega), if_neg (by omega), if_pos hk]
    have hh : needH x h = noHd := by
      unfold needH
      rw [if_neg (by omega), if_neg (by omega)]
    rw [hm]
    rw [hn, hh] at hs
    rw [hn]
    clear hm hn hh
    have g1 : (x.k == 1) = false := by rw [hk]; rfl
    have g2 : (x.k == 2) = false := by rw [hk]; rfl
    have g3 : (x.k == 3) = false := by rw [hk]; rfl
    have g4 : (x.k == 4) = false := by rw [hk]; rfl
    have g5 : (x.k == 5) = false := by rw [hk]; rfl
    have g6 : (x.k == 6) = false := by rw [hk]; rfl
    have g7 : (x.k == 7) = false := by rw [hk]; rfl
    have g8 : (x.k == 8) = true := by rw [hk]; rfl
    generalize sameR x ({ zeroRx x.k with r := x.r, p := x.p, g := x.g }) = q at *
    refine fc_i TB_ok Tryz.func18 rfl (by kernel_rfl) ?_
    have hS := Sf.refl w
    repeat' ((conv => whnf); first | refine And.intro ?_ ?_ | (apply q_i; focus (intro w1 hS; (conv => whnf); first | exact ⟨rfl, rfl⟩ | ((first | refine ld_f hS 0 rfl rfl ?_ | refine ld_f hS 1 rfl rfl ?_ | refine ld_f hS 2 rfl rfl ?_ | refine ldA_f hS 0 rfl rfl ?_ | refine ldA_f hS 1 rfl rfl ?_ | refine ldA_f hS 2 rfl rfl ?_); (conv => whnf); exact ⟨rfl, rfl⟩) | ((refine ldN_f hS 0 rfl (lb9 rfl) ?_); (conv => whnf); exact ⟨rfl, rfl⟩) | ((refine ldN_f hS 1 rfl (lb9 rfl) ?_); (conv => whnf); exact ⟨rfl, rfl⟩) | ((refine ldN_f hS 2 rfl (lb9 rfl) ?_); (conv => whnf); exact ⟨rfl, rfl⟩) | ((refine .mk ⟨by omega, by omega⟩ ?_); (conv => whnf); exact ⟨rfl, rfl⟩) | ((refine br_t (by assumption) ?_); (conv => whnf); exact ⟨rfl, rfl⟩) | ((refine br_f (by assumption) ?_); (conv => whnf); exact ⟨rfl, rfl⟩) | ((refine br_i (fun _ => ?_) (fun _ => ?_)); (conv => whnf); exact ⟨rfl, rfl⟩))) | (refine nw_f hS ?_; intro b w1 hS) | refine as_i hS ?_ | refine as_i (hS.subs (List.nil_sublist _) sb9) ?_ | refine as_i (hS.subs (List.Sublist.refl _) sb9) ?_ | refine bar_f hS ?_ | refine ld_f hS 0 rfl rfl ?_ | refine ld_f hS 1 rfl rfl ?_ | refine ld_f hS 2 rfl rfl ?_ | refine ldA_f hS 0 rfl rfl ?_ | refine ldA_f hS 1 rfl rfl ?_ | refine ldA_f hS 2 rfl rfl ?_ | ((first | refine stN_f hS 0 rfl (lb9 rfl) rfl rfl ?_ | refine stN_f hS 1 rfl (lb9 rfl) rfl rfl ?_ | refine stN_f hS 2 rfl (lb9 rfl) rfl rfl ?_ | refine stM_f hS 0 rfl (lb9 rfl) rfl ?_ | refine stM_f hS 1 rfl (lb9 rfl) rfl ?_ | refine stM_f hS 2 rfl (lb9 rfl) rfl ?_); (conv => whnf); intro w1 hS) | refine ldN_f hS 0 rfl (lb9 rfl) ?_ | refine ldN_f hS 1 rfl (lb9 rfl) ?_ | refine ldN_f hS 2 rfl (lb9 rfl) ?_ | (refine fc_m (named_c x.p (by omega) _) ?_; rintro v w3 ⟨rfl, hS'⟩; replace hS := hS.call0 hS') | (refine fc_m (hreg _ (hx.l.below hS.nil)) ?_; rintro v w3 ⟨rfl, hS'⟩; replace hS := hS.call0 hS') | (refine fc_m (hva _ (hx.v.below hS.nil)) ?_; rintro v w3 ⟨rfl, hS'⟩; replace hS := hS.call0 hS') | (refine fc_m (rmay_c x.g _) ?_; rintro v w3 ⟨rfl, hS'⟩; replace hS := hS.call0 hS') | (refine fc_m (hs _ (hx.below hS.nil)) ?_; rintro v w3 ⟨rfl, hS'⟩; replace hS := hS.call0 hS') | refine .mk ⟨by omega, by omega⟩ ?_ | refine br_t (by assumption) ?_ | refine br_f (by assumption) ?_ | (refine br_i (fun _ => ?_) (fun _ => ?_)) | (refine dr9 hS ?_; intro w1 hS) | refine br_t (by assumption) ?_ | refine br_f (by assumption) ?_)
    all_goals first
      | exact hS.nil
      | rfl
      | (refine congrArg Value.bool ?_; simp only [*, Bool.not_true, Bool.not_false, Bool.and_true, Bool.true_and, Bool.false_and, Bool.and_false, Bool.or_true, Bool.true_or, Bool.or_false, Bool.false_or])
  · have hm : mayR x = false := by
      unfold mayR
      rw [if_neg (by omega), if_neg (by omega), if_neg (by omega), if_neg (by omega), if_neg (by omega), if_neg (by omega), if_neg (by omega), if_neg (by omega)]
    have hn : needR x = zeroRx x.k := by
      unfold needR
      rw [if_neg (by omega), if_neg (by omega), if_neg (by omega), if_neg (by omega), if_neg (by omega), if_neg (by omega), if_neg (by omega), if_neg (by omega)]
    have hh : needH x h = noHd := by
      unfold needH
      rw [if_neg (by omega), if_neg (by omega)]
    rw [hm]
    rw [hn, hh] at hs
    rw [hn]
    clear hm hn hh
    have g1 : (x.k == 1) = false := by simp; omega
    have g2 : (x.k == 2) = false := by simp; omega
    have g3 : (x.k == 3) = false := by simp; omega
    have g4 : (x.k == 4) = false := by simp; omega
    have g5 : (x.k == 5) = false := by simp; omega
    have g6 : (x.k == 6) = false := by simp; omega
    have g7 : (x.k == 7) = false := by simp; omega
    have g8 : (x.k == 8) = false := by simp; omega
    generalize sameR x (zeroRx x.k) = q at *
    refine fc_i TB_ok Tryz.func18 rfl (by kernel_rfl) ?_
    have hS := Sf.refl w
    repeat' ((conv => whnf); first | refine And.intro ?_ ?_ | (apply q_i; focus (intro w1 hS; (conv => whnf); first | exact ⟨rfl, rfl⟩ | ((first | refine ld_f hS 0 rfl rfl ?_ | refine ld_f hS 1 rfl rfl ?_ | refine ld_f hS 2 rfl rfl ?_ | refine ldA_f hS 0 rfl rfl ?_ | refine ldA_f hS 1 rfl rfl ?_ | refine ldA_f hS 2 rfl rfl ?_); (conv => whnf); exact ⟨rfl, rfl⟩) | ((refine ldN_f hS 0 rfl (lb9 rfl) ?_); (conv => whnf); exact ⟨rfl, rfl⟩) | ((refine ldN_f hS 1 rfl (lb9 rfl) ?_); (conv => whnf); exact ⟨rfl, rfl⟩) | ((refine ldN_f hS 2 rfl (lb9 rfl) ?_); (conv => whnf); exact ⟨rfl, rfl⟩) | ((refine .mk ⟨by omega, by omega⟩ ?_); (conv => whnf); exact ⟨rfl, rfl⟩) | ((refine br_t (by assumption) ?_); (conv => whnf); exact ⟨rfl, rfl⟩) | ((refine br_f (by assumption) ?_); (conv => whnf); exact ⟨rfl, rfl⟩) | ((refine br_i (fun _ => ?_) (fun _ => ?_)); (conv => whnf); exact ⟨rfl, rfl⟩))) | (refine nw_f hS ?_; intro b w1 hS) | refine as_i hS ?_ | refine as_i (hS.subs (List.nil_sublist _) sb9) ?_ | refine as_i (hS.subs (List.Sublist.refl _) sb9) ?_ | refine bar_f hS ?_ | refine ld_f hS 0 rfl rfl ?_ | refine ld_f hS 1 rfl rfl ?_ | refine ld_f hS 2 rfl rfl ?_ | refine ldA_f hS 0 rfl rfl ?_ | refine ldA_f hS 1 rfl rfl ?_ | refine ldA_f hS 2 rfl rfl ?_ | ((first | refine stN_f hS 0 rfl (lb9 rfl) rfl rfl ?_ | refine stN_f hS 1 rfl (lb9 rfl) rfl rfl ?_ | refine stN_f hS 2 rfl (lb9 rfl) rfl rfl ?_ | refine stM_f hS 0 rfl (lb9 rfl) rfl ?_ | refine stM_f hS 1 rfl (lb9 rfl) rfl ?_ | refine stM_f hS 2 rfl (lb9 rfl) rfl ?_); (conv => whnf); intro w1 hS) | refine ldN_f hS 0 rfl (lb9 rfl) ?_ | refine ldN_f hS 1 rfl (lb9 rfl) ?_ | refine ldN_f hS 2 rfl (lb9 rfl) ?_ | (refine fc_m (named_c x.p (by omega) _) ?_; rintro v w3 ⟨rfl, hS'⟩; replace hS := hS.call0 hS') | (refine fc_m (hreg _ (hx.l.below hS.nil)) ?_; rintro v w3 ⟨rfl, hS'⟩; replace hS := hS.call0 hS') | (refine fc_m (hva _ (hx.v.below hS.nil)) ?_; rintro v w3 ⟨rfl, hS'⟩; replace hS := hS.call0 hS') | (refine fc_m (rmay_c x.g _) ?_; rintro v w3 ⟨rfl, hS'⟩; replace hS := hS.call0 hS') | (refine fc_m (hs _ (hx.below hS.nil)) ?_; rintro v w3 ⟨rfl, hS'⟩; replace hS := hS.call0 hS') | refine .mk ⟨by omega, by omega⟩ ?_ | refine br_t (by assumption) ?_ | refine br_f (by assumption) ?_ | (refine br_i (fun _ => ?_) (fun _ => ?_)) | (refine dr9 hS ?_; intro w1 hS) | refine br_t (by assumption) ?_ | refine br_f (by assumption) ?_)
    all_goals first
      | exact hS.nil
      | rfl
      | (refine congrArg Value.bool ?_; simp only [*, Bool.not_true, Bool.not_false, Bool.and_true, Bool.true_and, Bool.false_and, Bool.and_false, Bool.or_true, Bool.true_or, Bool.or_false, Bool.false_or])
end Go.RV



set_option maxRecDepth 20000
set_option linter.unusedVariables false
set_option linter.unusedSimpArgs false
namespace Go.RV
open Go Go.Proofs Go.RowKit

theorem rn18_c (x : Int) (h0 : 0 ≤ x) (h1 : x ≤ 4294967295) (W : Nat) (hW : W ≤ 4) (w : World) : Fc Tryz.prog 59 [.int .i64 x, .int .i64 W] w fun v w' => v = .string (strY (be x W)) ∧ St [] w w' [] := by
  refine fc_i TB_ok Tryz.func59 rfl (by kernel_rfl) ?_
  have hS := Sf.refl w
  have hf := fun w => rfixed_c x h0 h1 W hW w
  have hw : IntKind.u32.wrap x = x := wrap_u32 h0 (by omega)
  rw [← hw] at hf
  repeat ((conv => whnf); first | (apply q_i; focus (intro w1 hS; (conv => whnf); first | exact ⟨rfl, rfl⟩)) | (refine nw_f hS ?_; intro b w1 hS) | refine as_i hS ?_ | refine as_i (hS.subs (List.nil_sublist _) sb9) ?_ | refine as_i (hS.subs (List.Sublist.refl _) sb9) ?_ | refine bar_f hS ?_ | (refine fc_m (hf _) ?_; rintro v w3 ⟨rfl, hS'⟩; replace hS := hS.call0 hS') | (refine dr9 hS ?_; intro w1 hS) | refine br_t (by assumption) ?_ | refine br_f (by assumption) ?_)
  refine ⟨?_, hS.nil⟩
  rw [hw]
theorem rnw_c (x : Int) (h : 0 ≤ x ∧ x ≤ 4294967295) (W : Nat) (hW : W ≤ 4) (w : World) : Fc Tryz.prog 59 [.int .i64 (IntKind.i64.wrap x), .int .i64 W] w fun v w' => v = .string (strY (be x W)) ∧ St [] w w' [] := by
  rw [wrap_i64 (by omega) (by omega)]
  exact rn18_c x h.1 h.2 W hW w
theorem rtext18_c (p : List UInt8) (hp : p.length ≤ 255) (w : World) : Fc Tryz.prog 60 [.string (strY p)] w fun v w' => v = .string (strY (pathT p)) ∧ St [] w w' [] := by
  have hpz := strY_size p
  have hn1 := fun w => rn18_c ((strY p).size : Int) (by omega) (by omega) 1 (by decide) w
  refine fc_i TB_ok Tryz.func60 rfl (by kernel_rfl) ?_
  have hS := Sf.refl w
  repeat ((conv => whnf); first | (apply q_i; focus (intro w1 hS; (conv => whnf); first | exact ⟨rfl, rfl⟩ | ((refine .mk (by rw [strY_size, be_len]; omega) ?_); (conv => whnf); exact ⟨rfl, rfl⟩))) | (refine nw_f hS ?_; intro b w1 hS) | refine as_i hS ?_ | refine as_i (hS.subs (List.nil_sublist _) sb9) ?_ | refine as_i (hS.subs (List.Sublist.refl _) sb9) ?_ | refine bar_f hS ?_ | (refine fc_m (hn1 _) ?_; rintro v w3 ⟨rfl, hS'⟩; replace hS := hS.call0 hS') | refine .mk (by rw [strY_size, be_len]; omega) ?_ | (refine dr9 hS ?_; intro w1 hS) | refine br_t (by assumption) ?_ | refine br_f (by assumption) ?_)
  refine ⟨?_, hS.nil⟩
  unfold pathT
  rw [← hpz, ← strY_append]
theorem shl64' {i : Nat} (h : i < 8) : bShl .i64 1 (i : Int) = 2 ^ i := by
  rcases lt8 h with rfl | rfl | rfl | rfl | rfl | rfl | rfl | rfl <;> decide
set_option maxHeartbeats 4000000 in
theorem rvec18_c (g : Nat → Int) (hg : ∀ j, j < 8 → 0 ≤ g j ∧ g j ≤ 65535) (w : World) : Fc Tryz.prog 61 [vecV g] w fun v w' => v = .string (strY (ctxT g)) ∧ St [] w w' [] := by
  refine fc_i TB_ok Tryz.func61 rfl (by kernel_rfl) ?_
  have hS := Sf.refl w
  repeat ((conv => whnf); first | (apply q_i; focus (intro w1 hS; (conv => whnf); first | exact ⟨rfl, rfl⟩ | ((first | refine ld_f hS 0 rfl rfl ?_ | refine ldA_f hS 0 rfl rfl ?_); (conv => whnf); exact ⟨rfl, rfl⟩))) | (refine nw_f hS ?_; intro b w1 hS) | refine as_i hS ?_ | refine as_i (hS.subs (List.nil_sublist _) sb9) ?_ | refine as_i (hS.subs (List.Sublist.refl _) sb9) ?_ | refine bar_f hS ?_ | refine ld_f hS 0 rfl rfl ?_ | refine ldA_f hS 0 rfl rfl ?_ | ((first | refine stN_f hS 0 rfl (lb9 rfl) rfl rfl ?_ | refine stM_f hS 0 rfl (lb9 rfl) rfl ?_); (conv => whnf); intro w1 hS) | (refine dr9 hS ?_; intro w1 hS) | refine br_t (by assumption) ?_ | refine br_f (by assumption) ?_)
  replace hS : Sf [] w _ [] [(_, .cells (vecF g).toArray 37 (0, 0))] := hS
  refine loop_i TB_ok (fun i : Nat => [(5, .int .i64 i), (3, .int .i64 (bitsN g i)), (4, .string (strY (num2 g i)))]) (fun i w' => i ≤ 8 ∧ Sf [] w w' [] [(_, .cells (vecF g).toArray 37 (0, 0))]) (fun i => 8 - i) 0 rfl ⟨Nat.zero_le _, hS⟩ ?_
  rintro i us w2 ⟨hi, hS⟩
  (conv => whnf)
  refine br_i (fun hb => ?_) (fun hb => ?_)
  · have hlt : i < 8 := by have := of_decide_eq_true hb; omega
    have hgi := hg i hlt
    have hbl := bitsN_lt g i
    have hnl := num2_len g i
    have hpw := pow8 (show i ≤ 8 by omega)
    have hn2 := fun w => rnw_c (g i) (by omega) 2 (by decide) w
    repeat ((conv => whnf); first | (apply q_i; focus (intro w1 hS; (conv => whnf); first | exact ⟨rfl, rfl⟩ | ((refine .mk ⟨by omega, by omega⟩ ?_); (conv => whnf); exact ⟨rfl, rfl⟩) | ((refine ldv_f hS 0 rfl hlt (by show 0 + i * 1 = i; omega) ?_); (conv => whnf); exact ⟨rfl, rfl⟩) | ((refine stv_f hS 0 rfl hlt (by show 0 + i * 1 = i; omega) ?_; (conv => whnf); intro w1 hS); (conv => whnf); exact ⟨rfl, rfl⟩))) | (refine nw_f hS ?_; intro b w1 hS) | refine as_i hS ?_ | refine as_i (hS.subs (List.nil_sublist _) sb9) ?_ | refine as_i (hS.subs (List.Sublist.refl _) sb9) ?_ | refine bar_f hS ?_ | refine .mk ⟨by omega, by omega⟩ ?_ | refine ldv_f hS 0 rfl hlt (by show 0 + i * 1 = i; omega) ?_ | (refine stv_f hS 0 rfl hlt (by show 0 + i * 1 = i; omega) ?_; (conv => whnf); intro w1 hS) | (refine dr9 hS ?_; intro w1 hS) | refine br_t (by assumption) ?_ | refine br_f (by assumption) ?_)
    (conv => whnf)
    refine br_i (fun h1 => ?_) (fun h1 => ?_)
    · have h1' : 0 < g i := of_decide_eq_true h1
      repeat ((conv => whnf); first | (apply q_i; focus (intro w1 hS; (conv => whnf); first | exact ⟨rfl, rfl⟩ | ((refine .mk ⟨by omega, by omega⟩ ?_); (conv => whnf); exact ⟨rfl, rfl⟩) | ((refine ldv_f hS 0 rfl hlt (by show 0 + i * 1 = i; omega) ?_); (conv => whnf); exact ⟨rfl, rfl⟩) | ((refine stv_f hS 0 rfl hlt (by show 0 + i * 1 = i; omega) ?_; (conv => whnf); intro w1 hS); (conv => whnf); exact ⟨rfl, rfl⟩) | ((refine .mk (by show (0 : Int) ≤ ((i : Nat) : Int); omega) ?_); (conv => whnf); exact ⟨rfl, rfl⟩) | ((refine .mk (by rw [strY_size, strY_size, be_len]; omega) ?_); (conv => whnf); exact ⟨rfl, rfl⟩))) | (refine nw_f hS ?_; intro b w1 hS) | refine as_i hS ?_ | refine as_i (hS.subs (List.nil_sublist _) sb9) ?_ | refine as_i (hS.subs (List.Sublist.refl _) sb9) ?_ | refine bar_f hS ?_ | refine .mk ⟨by omega, by omega⟩ ?_ | refine ldv_f hS 0 rfl hlt (by show 0 + i * 1 = i; omega) ?_ | (refine stv_f hS 0 rfl hlt (by show 0 + i * 1 = i; omega) ?_; (conv => whnf); intro w1 hS) | (refine .mk (by show (0 : Int) ≤ ((i : Nat) : Int); omega) ?_) | (refine fc_m (hn2 _) ?_; rintro v w3 ⟨rfl, hS'⟩; replace hS := hS.call0 hS') | refine .mk (by rw [strY_size, strY_size, be_len]; omega) ?_ | (refine dr9 hS ?_; intro w1 hS) | refine br_t (by assumption) ?_ | refine br_f (by assumption) ?_)
      refine ⟨rfl, i + 1, ?_, ⟨by omega, hS⟩, by omega⟩
      have e1 : bitsN g (i + 1) = IntKind.i64.wrap (bitsN g i + bShl .i64 1 (i : Int)) := by rw [bitsN, if_pos h1', shl64' hlt, wrap_i64 (by omega) (by omega)]
      have e2 : strY (num2 g (i + 1)) = strY (num2 g i) ++ strY (be (g i) 2) := by rw [num2, if_pos h1', strY_append]
      rw [wi8 hlt, e1, e2]
      rfl
    · have h1' : ¬ 0 < g i := of_decide_eq_false h1
      repeat ((conv => whnf); first | (apply q_i; focus (intro w1 hS; (conv => whnf); first | exact ⟨rfl, rfl⟩)) | (refine nw_f hS ?_; intro b w1 hS) | refine as_i hS ?_ | refine as_i (hS.subs (List.nil_sublist _) sb9) ?_ | refine as_i (hS.subs (List.Sublist.refl _) sb9) ?_ | refine bar_f hS ?_ | (refine dr9 hS ?_; intro w1 hS) | refine br_t (by assumption) ?_ | refine br_f (by assumption) ?_)
      refine ⟨rfl, i + 1, ?_, ⟨by omega, hS⟩, by omega⟩
      rw [wi8 hlt, show bitsN g (i + 1) = bitsN g i from by rw [bitsN, if_neg h1'], show num2 g (i + 1) = num2 g i from by rw [num2, if_neg h1']]
      rfl
  · have hge : i = 8 := by have := of_decide_eq_false hb; omega
    subst hge
    have hbl := bitsN_lt g 8
    have hnl := num2_len g 8
    have hn3 := fun w => rn18_c (bitsN g 8) hbl.1 (by omega) 1 (by decide) w
    have hr : strY (be (bitsN g 8) 1) ++ strY (num2 g 8) = strY (ctxT g) := by unfold ctxT; rw [strY_append]
    generalize bitsN g 8 = bits at *
    generalize num2 g 8 = nums at *
    repeat ((conv => whnf); first | (apply q_i; focus (intro w1 hS; (conv => whnf); first | exact ⟨rfl, rfl⟩ | ((first | refine ld_f hS 0 rfl rfl ?_ | refine ldA_f hS 0 rfl rfl ?_); (conv => whnf); exact ⟨rfl, rfl⟩) | ((refine .mk (by rw [strY_size, strY_size, be_len]; omega) ?_); (conv => whnf); exact ⟨rfl, rfl⟩))) | (refine nw_f hS ?_; intro b w1 hS) | refine as_i hS ?_ | refine as_i (hS.subs (List.nil_sublist _) sb9) ?_ | refine as_i (hS.subs (List.Sublist.refl _) sb9) ?_ | refine bar_f hS ?_ | refine ld_f hS 0 rfl rfl ?_ | refine ldA_f hS 0 rfl rfl ?_ | ((first | refine stN_f hS 0 rfl (lb9 rfl) rfl rfl ?_ | refine stM_f hS 0 rfl (lb9 rfl) rfl ?_); (conv => whnf); intro w1 hS) | (refine fc_m (hn3 _) ?_; rintro v w3 ⟨rfl, hS'⟩; replace hS := hS.call0 hS') | refine .mk (by rw [strY_size, strY_size, be_len]; omega) ?_ | (refine dr9 hS ?_; intro w1 hS) | refine br_t (by assumption) ?_ | refine br_f (by assumption) ?_)
    exact ⟨congrArg Value.string hr, hS.nil⟩
theorem rval18_c (v : Va) (ho : okVa v) (hk : okV v = true) (A : Option Addr) (c : Nat) (w : World) (hR : Rd w A (flat encU v.ks)) :
    Fc Tryz.prog 62 [vaV v A c] w fun u w' => u = .string (strY (vaT v)) ∧ St [] w w' [] := by
  have hp := fun (w' : World) => rputV_c v.d v.n ho.1.1 ho.1.2 A c v.ks ho.2 w'
  rw [show okVB v.d v.n v.ks = true from hk] at hp
  have hl := okVB_len hk
  refine fc_i TB_ok Tryz.func62 rfl (by kernel_rfl) ?_
  have hS := Sf.refl w
  repeat ((conv => whnf); first | (apply q_i; focus (intro w1 hS; (conv => whnf); first | exact ⟨rfl, rfl⟩ | ((first | refine ld_f hS 0 rfl rfl ?_ | refine ldA_f hS 0 rfl rfl ?_); (conv => whnf); exact ⟨rfl, rfl⟩))) | (refine nw_f hS ?_; intro b w1 hS) | refine as_i hS ?_ | refine as_i (hS.subs (List.nil_sublist _) sb9) ?_ | refine as_i (hS.subs (List.Sublist.refl _) sb9) ?_ | refine bar_f hS ?_ | refine ld_f hS 0 rfl rfl ?_ | refine ldA_f hS 0 rfl rfl ?_ | ((first | refine stN_f hS 0 rfl (lb9 rfl) rfl rfl ?_ | refine stM_f hS 0 rfl (lb9 rfl) rfl ?_); (conv => whnf); intro w1 hS) | (refine fc_m (hp _ (hR.below hS.nil) (by omega)) ?_; rintro v w3 ⟨rfl, hS'⟩; replace hS := hS.call0 hS') | (refine dr9 hS ?_; intro w1 hS) | refine br_t (by assumption) ?_ | refine br_f (by assumption) ?_)
  exact ⟨rfl, hS.nil⟩
set_option maxHeartbeats 16000000 in
theorem rText18_c (x : Rx) (ho : okR x) (hc : checkR x = true) (h : Hd) (ms : List Sm) (w : World) (hx : MemR w x h ms) :
    Fc Tryz.prog 34 [recV x h] w fun v w' => v = .string (strY (recT x)) ∧ St [] w w' [] := by
  have hm := checkR_may hc
  have hxe := hx.eq
  have hxl := hx.len
  have hk8 := fun w => rnw_c x.k (by have := ho.k; omega) 1 (by decide) w
  unfold recT
  rcases checkR_kinds hc with hk | hk | hk | hk | hk | hk | hk | hk
  · rw [restT1 hk]
    rw [mayR1 hk] at hm
    have g1 : (x.k == 1) = true := by rw [hk]; rfl
    have g2 : (x.k == 2) = false := by rw [hk]; rfl
    have g3 : (x.k == 3) = false := by rw [hk]; rfl
    have g4 : (x.k == 4) = false := by rw [hk]; rfl
    have g5 : (x.k == 5) = false := by rw [hk]; rfl
    have g6 : (x.k == 6) = false := by rw [hk]; rfl
    have g7 : (x.k == 7) = false := by rw [hk]; rfl
    have g8 : (x.k == 8) = false := by rw [hk]; rfl
    refine fc_i TB_ok Tryz.func34 rfl (by kernel_rfl) ?_
    have hS := Sf.refl w
    repeat ((conv => whnf); first | (apply q_i; focus (intro w1 hS; (conv => whnf); first | exact ⟨rfl, rfl⟩ | ((first | refine ld_f hS 0 rfl rfl ?_ | refine ldA_f hS 0 rfl rfl ?_); (conv => whnf); exact ⟨rfl, rfl⟩) | ((refine ldN_f hS 0 rfl (lb9 rfl) ?_); (conv => whnf); exact ⟨rfl, rfl⟩) | ((refine br_t (by assumption) ?_); (conv => whnf); exact ⟨rfl, rfl⟩) | ((refine br_f (by assumption) ?_); (conv => whnf); exact ⟨rfl, rfl⟩) | ((refine .mk ⟨by omega, by omega⟩ ?_); (conv => whnf); exact ⟨rfl, rfl⟩) | ((refine .mk (by simp only [strY_append, strY_size, List.length_append, be_len]; omega) ?_); (conv => whnf); exact ⟨rfl, rfl⟩))) | (refine nw_f hS ?_; intro b w1 hS) | refine as_i hS ?_ | refine as_i (hS.subs (List.nil_sublist _) sb9) ?_ | refine as_i (hS.subs (List.Sublist.refl _) sb9) ?_ | refine bar_f hS ?_ | refine ld_f hS 0 rfl rfl ?_ | refine ldA_f hS 0 rfl rfl ?_ | ((first | refine stN_f hS 0 rfl (lb9 rfl) rfl rfl ?_ | refine stM_f hS 0 rfl (lb9 rfl) rfl ?_); (conv => whnf); intro w1 hS) | refine ldN_f hS 0 rfl (lb9 rfl) ?_ | refine br_t (by assumption) ?_ | refine br_f (by assumption) ?_ | refine .mk ⟨by omega, by omega⟩ ?_ | (refine fc_m (hk8 _) ?_; rintro v w3 ⟨rfl, hS'⟩; replace hS := hS.call0 hS') | (refine fc_m (rnw_c x.r (by have := ho.r; omega) 1 (by decide) _) ?_; rintro v w3 ⟨rfl, hS'⟩; replace hS := hS.call0 hS') | refine .mk (by simp only [strY_append, strY_size, List.length_append, be_len]; omega) ?_ | (refine dr9 hS ?_; intro w1 hS) | refine br_t (by assumption) ?_ | refine br_f (by assumption) ?_)
    refine ⟨?_, hS.nil⟩
    simp only [strY_append, List.append_assoc]
  · rw [restT2 hk]
    rw [mayR2 hk] at hm
    have g1 : (x.k == 1) = false := by rw [hk]; rfl
    have g2 : (x.k == 2) = true := by rw [hk]; rfl
    have g3 : (x.k == 3) = false := by rw [hk]; rfl
    have g4 : (x.k == 4) = false := by rw [hk]; rfl
    have g5 : (x.k == 5) = false := by rw [hk]; rfl
    have g6 : (x.k == 6) = false := by rw [hk]; rfl
    have g7 : (x.k == 7) = false := by rw [hk]; rfl
    have g8 : (x.k == 8) = false := by rw [hk]; rfl
    refine fc_i TB_ok Tryz.func34 rfl (by kernel_rfl) ?_
    have hS := Sf.refl w
    repeat ((conv => whnf); first | (apply q_i; focus (intro w1 hS; (conv => whnf); first | exact ⟨rfl, rfl⟩ | ((first | refine ld_f hS 0 rfl rfl ?_ | refine ldA_f hS 0 rfl rfl ?_); (conv => whnf); exact ⟨rfl, rfl⟩) | ((refine ldN_f hS 0 rfl (lb9 rfl) ?_); (conv => whnf); exact ⟨rfl, rfl⟩) | ((refine br_t (by assumption) ?_); (conv => whnf); exact ⟨rfl, rfl⟩) | ((refine br_f (by assumption) ?_); (conv => whnf); exact ⟨rfl, rfl⟩) | ((refine .mk ⟨by omega, by omega⟩ ?_); (conv => whnf); exact ⟨rfl, rfl⟩) | ((refine .mk (by simp only [strY_append, strY_size, List.length_append, be_len]; omega) ?_); (conv => whnf); exact ⟨rfl, rfl⟩))) | (refine nw_f hS ?_; intro b w1 hS) | refine as_i hS ?_ | refine as_i (hS.subs (List.nil_sublist _) sb9) ?_ | refine as_i (hS.subs (List.Sublist.refl _) sb9) ?_ | refine bar_f hS ?_ | refine ld_f hS 0 rfl rfl ?_ | refine ldA_f hS 0 rfl rfl ?_ | ((first | refine stN_f hS 0 rfl (lb9 rfl) rfl rfl ?_ | refine stM_f hS 0 rfl (lb9 rfl) rfl ?_); (conv => whnf); intro w1 hS) | refine ldN_f hS 0 rfl (lb9 rfl) ?_ | refine br_t (by assumption) ?_ | refine br_f (by assumption) ?_ | refine .mk ⟨by omega, by omega⟩ ?_ | (refine fc_m (hk8 _) ?_; rintro v w3 ⟨rfl, hS'⟩; replace hS := hS.call0 hS') | (refine fc_m (rnw_c x.n0 ho.n0 4 (by decide) _) ?_; rintro v w3 ⟨rfl, hS'⟩; replace hS := hS.call0 hS') | (refine fc_m (rnw_c x.n1 ho.n1 4 (by decide) _) ?_; rintro v w3 ⟨rfl, hS'⟩; replace hS := hS.call0 hS') | (refine fc_m (rnw_c x.n2 ho.n2 4 (by decide) _) ?_; rintro v w3 ⟨rfl, hS'⟩; replace hS := hS.call0 hS') | refine .mk (by simp only [strY_append, strY_size, List.length_append, be_len]; omega) ?_ | (refine dr9 hS ?_; intro w1 hS) | refine br_t (by assumption) ?_ | refine br_f (by assumption) ?_)
    refine ⟨?_, hS.nil⟩
    simp only [strY_append, List.append_assoc]
  · rw [restT3 hk]
    rw [mayR3 hk] at hm
    rw [Bool.and_eq_true, inB_iff] at hm
    have g1 : (x.k == 1) = false := by rw [hk]; rfl
    have g2 : (x.k == 2) = false := by rw [hk]; rfl
    have g3 : (x.k == 3) = true := by rw [hk]; rfl
    have g4 : (x.k == 4) = false := by rw [hk]; rfl
    have g5 : (x.k == 5) = false := by rw [hk]; rfl
    have g6 : (x.k == 6) = false := by rw [hk]; rfl
    have g7 : (x.k == 7) = false := by rw [hk]; rfl
    have g8 : (x.k == 8) = false := by rw [hk]; rfl
    refine fc_i TB_ok Tryz.func34 rfl (by kernel_rfl) ?_
    have hS := Sf.refl w
    repeat ((conv => whnf); first | (apply q_i; focus (intro w1 hS; (conv => whnf); first | exact ⟨rfl, rfl⟩ | ((first | refine ld_f hS 0 rfl rfl ?_ | refine ldA_f hS 0 rfl rfl ?_); (conv => whnf); exact ⟨rfl, rfl⟩) | ((refine ldN_f hS 0 rfl (lb9 rfl) ?_); (conv => whnf); exact ⟨rfl, rfl⟩) | ((refine br_t (by assumption) ?_); (conv => whnf); exact ⟨rfl, rfl⟩) | ((refine br_f (by assumption) ?_); (conv => whnf); exact ⟨rfl, rfl⟩) | ((refine .mk ⟨by omega, by omega⟩ ?_); (conv => whnf); exact ⟨rfl, rfl⟩) | ((refine .mk (by simp only [strY_append, strY_size, List.length_append, be_len]; omega) ?_); (conv => whnf); exact ⟨rfl, rfl⟩))) | (refine nw_f hS ?_; intro b w1 hS) | refine as_i hS ?_ | refine as_i (hS.subs (List.nil_sublist _) sb9) ?_ | refine as_i (hS.subs (List.Sublist.refl _) sb9) ?_ | refine bar_f hS ?_ | refine ld_f hS 0 rfl rfl ?_ | refine ldA_f hS 0 rfl rfl ?_ | ((first | refine stN_f hS 0 rfl (lb9 rfl) rfl rfl ?_ | refine stM_f hS 0 rfl (lb9 rfl) rfl ?_); (conv => whnf); intro w1 hS) | refine ldN_f hS 0 rfl (lb9 rfl) ?_ | refine br_t (by assumption) ?_ | refine br_f (by assumption) ?_ | refine .mk ⟨by omega, by omega⟩ ?_ | (refine fc_m (hk8 _) ?_; rintro v w3 ⟨rfl, hS'⟩; replace hS := hS.call0 hS') | (refine fc_m (rnw_c x.rk (by have := ho.rk; omega) 1 (by decide) _) ?_; rintro v w3 ⟨rfl, hS'⟩; replace hS := hS.call0 hS') | (refine fc_m (rnw_c x.ra ho.ra 4 (by decide) _) ?_; rintro v w3 ⟨rfl, hS'⟩; replace hS := hS.call0 hS') | (refine fc_m (rn18_c x.rq hm.2.1 (by omega) 4 (by decide) _) ?_; rintro v w3 ⟨rfl, hS'⟩; replace hS := hS.call0 hS') | refine .mk (by simp only [strY_append, strY_size, List.length_append, be_len]; omega) ?_ | (refine dr9 hS ?_; intro w1 hS) | refine br_t (by assumption) ?_ | refine br_f (by assumption) ?_)
    refine ⟨?_, hS.nil⟩
    simp only [strY_append, List.append_assoc]
  · rw [restT4 hk]
    rw [mayR4 hk] at hm
    rw [Bool.and_eq_true] at hm
    have hp := namedB_len hm.1
    have hpt : (pathT x.p).length ≤ 37 := by unfold pathT; rw [List.length_append, be_len]; omega
    obtain ⟨hmv, h8, he⟩ := regB_parts hm.2
    have hcl := ctxT_len x.f
    have g1 : (x.k == 1) = false := by rw [hk]; rfl
    have g2 : (x.k == 2) = false := by rw [hk]; rfl
    have g3 : (x.k == 3) = false := by rw [hk]; rfl
    have g4 : (x.k == 4) = true := by rw [hk]; rfl
    have g5 : (x.k == 5) = false := by rw [hk]; rfl
    have g6 : (x.k == 6) = false := by rw [hk]; rfl
    have g7 : (x.k == 7) = false := by rw [hk]; rfl
    have g8 : (x.k == 8) = false := by rw [hk]; rfl
    refine fc_i TB_ok Tryz.func34 rfl (by kernel_rfl) ?_
    have hS := Sf.refl w
    repeat ((conv => whnf); first | (apply q_i; focus (intro w1 hS; (conv => whnf); first | exact ⟨rfl, rfl⟩ | ((first | refine ld_f hS 0 rfl rfl ?_ | refine ldA_f hS 0 rfl rfl ?_); (conv => whnf); exact ⟨rfl, rfl⟩) | ((refine ldN_f hS 0 rfl (lb9 rfl) ?_); (conv => whnf); exact ⟨rfl, rfl⟩) | ((refine br_t (by assumption) ?_); (conv => whnf); exact ⟨rfl, rfl⟩) | ((refine br_f (by assumption) ?_); (conv => whnf); exact ⟨rfl, rfl⟩) | ((refine .mk ⟨by omega, by omega⟩ ?_); (conv => whnf); exact ⟨rfl, rfl⟩) | ((refine .mk (by simp only [strY_append, strY_size, List.length_append, be_len]; omega) ?_); (conv => whnf); exact ⟨rfl, rfl⟩))) | (refine nw_f hS ?_; intro b w1 hS) | refine as_i hS ?_ | refine as_i (hS.subs (List.nil_sublist _) sb9) ?_ | refine as_i (hS.subs (List.Sublist.refl _) sb9) ?_ | refine bar_f hS ?_ | refine ld_f hS 0 rfl rfl ?_ | refine ldA_f hS 0 rfl rfl ?_ | ((first | refine stN_f hS 0 rfl (lb9 rfl) rfl rfl ?_ | refine stM_f hS 0 rfl (lb9 rfl) rfl ?_); (conv => whnf); intro w1 hS) | refine ldN_f hS 0 rfl (lb9 rfl) ?_ | refine br_t (by assumption) ?_ | refine br_f (by assumption) ?_ | refine .mk ⟨by omega, by omega⟩ ?_ | (refine fc_m (hk8 _) ?_; rintro v w3 ⟨rfl, hS'⟩; replace hS := hS.call0 hS') | (refine fc_m (rtext18_c x.p (by omega) _) ?_; rintro v w3 ⟨rfl, hS'⟩; replace hS := hS.call0 hS') | (refine fc_m (rvec18_c x.f (fun j hj => ⟨(ho.f j hj).1, mayVB_le hmv j hj⟩) _) ?_; rintro v w3 ⟨rfl, hS'⟩; replace hS := hS.call0 hS') | (refine fc_m (rn18_c (x.xs.length : Int) (by omega) (by omega) 1 (by decide) _) ?_; rintro v w3 ⟨rfl, hS'⟩; replace hS := hS.call0 hS') | refine .mk (by simp only [strY_append, strY_size, List.length_append, be_len]; omega) ?_ | (refine dr9 hS ?_; intro w1 hS) | refine br_t (by assumption) ?_ | refine br_f (by assumption) ?_)
    generalize hpre : be x.k 1 ++ pathT x.p ++ ctxT x.f ++ be x.xs.length 1 = pre
    have hprl : pre.length ≤ 60 := by rw [← hpre]; simp only [List.length_append, be_len]; omega
    have hprs : strY (be x.k 1) ++ strY (pathT x.p) ++ strY (ctxT x.f) ++ strY (be x.xs.length 1) = strY pre := by rw [← hpre]; simp only [strY_append]
    refine loop_i TB_ok (fun i : Nat => [(4, .int .i64 i), (3, .string (strY (pre ++ sbsT (x.xs.take i))))]) (fun i w' => i ≤ ms.length ∧ Sf [] w w' [] [_]) (fun i => ms.length - i) 0 (by rw [show pre ++ sbsT (x.xs.take 0) = pre by simp [sbsT], ← hprs]; rfl) ⟨Nat.zero_le _, hS⟩ ?_
    rintro i us w2 ⟨hi, hS⟩
    by_cases hlt : i < ms.length
    · have h1 : decide ((i : Int) < (x.xs.length : Int)) = true := decide_eq_true (by omega)
      obtain ⟨x0, off, hA⟩ := hx.l.rd.form (flat_ne encM_len (by omega) hlt)
      have hRA : ∀ {w' : World}, St [] w w' [] → Rd w' (some ⟨x0, off, none⟩) (flat encM ms) := fun {w'} hs => by
        have := hx.l.rd.below hs
        rwa [hA] at this
      have hmx := List.getElem_mem hlt
      have hs : ms[i].s ∈ x.xs := by rw [hxe]; exact List.mem_map_of_mem hmx
      have hos := ho.xs _ hs
      have hes := he _ hs
      have hn16 := (hasB_dot hes.1).2.2
      have hvl := valT_len hes.2
      have hst : sbsT (x.xs.take (i + 1)) = sbsT (x.xs.take i) ++ sbT ms[i].s := by
        rw [sbsT_snoc _ (by omega)]
        simp only [hxe, List.getElem_map]
      have hbl := sbsT_len (x.xs.take i) (fun s hs' => (he s (List.mem_of_mem_take hs')).2)
      rw [List.length_take] at hbl
      generalize hacc : pre ++ sbsT (x.xs.take i) = acc
      have hal : acc.length ≤ 300 := by rw [← hacc, List.length_append]; omega
      repeat ((conv => whnf); first | (apply q_i; focus (intro w1 hS; (conv => whnf); first | exact ⟨rfl, rfl⟩ | ((first | refine ld_f hS 0 rfl rfl ?_ | refine ld_f hS 1 rfl rfl ?_ | refine ldA_f hS 0 rfl rfl ?_ | refine ldA_f hS 1 rfl rfl ?_); (conv => whnf); exact ⟨rfl, rfl⟩) | ((refine br_t (by assumption) ?_); (conv => whnf); exact ⟨rfl, rfl⟩) | ((refine .mk ⟨by omega, by omega⟩ ?_; refine ix_i hA ?_); (conv => whnf); exact ⟨rfl, rfl⟩) | ((refine ldN_elp encM_len (hRA hS.nil).at (i := i) (j0 := 0) hlt rfl (lb9 rfl) [.int .u8 ms[i].s.r, .int .u32 ms[i].s.n] rfl ?_); (conv => whnf); exact ⟨rfl, rfl⟩))) | (refine nw_f hS ?_; intro b w1 hS) | refine as_i hS ?_ | refine as_i (hS.subs (List.nil_sublist _) sb9) ?_ | refine as_i (hS.subs (List.Sublist.refl _) sb9) ?_ | refine bar_f hS ?_ | refine ld_f hS 0 rfl rfl ?_ | refine ld_f hS 1 rfl rfl ?_ | refine ldA_f hS 0 rfl rfl ?_ | refine ldA_f hS 1 rfl rfl ?_ | ((first | refine stN_f hS 0 rfl (lb9 rfl) rfl rfl ?_ | refine stN_f hS 1 rfl (lb9 rfl) rfl rfl ?_ | refine stM_f hS 0 rfl (lb9 rfl) rfl ?_ | refine stM_f hS 1 rfl (lb9 rfl) rfl ?_); (conv => whnf); intro w1 hS) | refine br_t (by assumption) ?_ | (refine .mk ⟨by omega, by omega⟩ ?_; refine ix_i hA ?_) | refine ldN_elp encM_len (hRA hS.nil).at (i := i) (j0 := 0) hlt rfl (lb9 rfl) [.int .u8 ms[i].s.r, .int .u32 ms[i].s.n] rfl ?_ | refine br_t (by assumption) ?_ | refine br_f (by assumption) ?_)
      refine drawf TB_ok rfl (by kernel_rfl) (by kernel_rfl) hS (List.Sublist.refl _) (List.Sublist.refl _) ?_; intro w1 hS
      repeat ((conv => whnf); first | (apply q_i; focus (intro w1 hS; (conv => whnf); first | exact ⟨rfl, rfl⟩ | ((first | refine ld_f hS 0 rfl rfl ?_ | refine ld_f hS 1 rfl rfl ?_ | refine ldA_f hS 0 rfl rfl ?_ | refine ldA_f hS 1 rfl rfl ?_); (conv => whnf); exact ⟨rfl, rfl⟩) | ((refine .mk ⟨by omega, by omega⟩ ?_; refine ix_i hA ?_); (conv => whnf); exact ⟨rfl, rfl⟩) | ((refine ldN_elp encM_len (hRA hS.nil).at (i := i) (j0 := 2) hlt rfl (lb9 rfl) [.bool ms[i].s.v.d, .int .i64 ms[i].s.v.n, .slice ms[i].A ms[i].s.v.ks.length ms[i].c] rfl ?_); (conv => whnf); exact ⟨rfl, rfl⟩) | ((refine .mk (by simp only [strY_append, strY_size, List.length_append, be_len]; omega) ?_); (conv => whnf); exact ⟨rfl, rfl⟩))) | (refine nw_f hS ?_; intro b w1 hS) | refine as_i hS ?_ | refine as_i (hS.subs (List.nil_sublist _) sb9) ?_ | refine as_i (hS.subs (List.Sublist.refl _) sb9) ?_ | refine bar_f hS ?_ | refine ld_f hS 0 rfl rfl ?_ | refine ld_f hS 1 rfl rfl ?_ | refine ldA_f hS 0 rfl rfl ?_ | refine ldA_f hS 1 rfl rfl ?_ | ((first | refine stN_f hS 0 rfl (lb9 rfl) rfl rfl ?_ | refine stN_f hS 1 rfl (lb9 rfl) rfl rfl ?_ | refine stM_f hS 0 rfl (lb9 rfl) rfl ?_ | refine stM_f hS 1 rfl (lb9 rfl) rfl ?_); (conv => whnf); intro w1 hS) | (refine .mk ⟨by omega, by omega⟩ ?_; refine ix_i hA ?_) | refine ldN_elp encM_len (hRA hS.nil).at (i := i) (j0 := 2) hlt rfl (lb9 rfl) [.bool ms[i].s.v.d, .int .i64 ms[i].s.v.n, .slice ms[i].A ms[i].s.v.ks.length ms[i].c] rfl ?_ | (refine fc_m (rnw_c ms[i].s.r (by have := hos.1; omega) 1 (by decide) _) ?_; rintro v w3 ⟨rfl, hS'⟩; replace hS := hS.call0 hS') | (refine fc_m (rnw_c ms[i].s.n hos.2.1 2 (by decide) _) ?_; rintro v w3 ⟨rfl, hS'⟩; replace hS := hS.call0 hS') | (refine fc_m (rval18_c ms[i].s.v hos.2.2 hes.2 ms[i].A ms[i].c _ ((hx.l.el _ hmx).below hS.nil)) ?_; rintro v w3 ⟨rfl, hS'⟩; replace hS := hS.call0 hS') | refine .mk (by simp only [strY_append, strY_size, List.length_append, be_len]; omega) ?_ | (refine dr9 hS ?_; intro w1 hS) | refine br_t (by assumption) ?_ | refine br_f (by assumption) ?_)
      refine ⟨rfl, i + 1, ?_, ⟨by omega, hS.subs (List.Sublist.refl _) (.cons _ (.refl _))⟩, by omega⟩
      have e2 : strY (pre ++ sbsT (x.xs.take (i + 1))) = strY acc ++ strY (be ms[i].s.r 1) ++ strY (be ms[i].s.n 2) ++ strY (vaT ms[i].s.v) := by
        rw [hst, ← List.append_assoc, hacc]
        unfold sbT
        simp only [strY_append, List.append_assoc]
      rw [wi hlt (by omega), e2]
      rfl
    · have h1 : decide ((i : Int) < (x.xs.length : Int)) = false := decide_eq_false (by omega)
      have hge : i = ms.length := by omega
      have hall : x.xs.take i = x.xs := List.take_of_length_le (by omega)
      rw [hall]
      have hr : pre ++ sbsT x.xs = be x.k 1 ++ (pathT x.p ++ ctxT x.f ++ be x.xs.length 1 ++ sbsT x.xs) := by rw [← hpre]; simp only [List.append_assoc]
      rw [← hr]
      generalize pre ++ sbsT x.xs = acc
      repeat ((conv => whnf); first | (apply q_i; focus (intro w1 hS; (conv => whnf); first | exact ⟨rfl, rfl⟩ | ((first | refine ld_f hS 0 rfl rfl ?_ | refine ldA_f hS 0 rfl rfl ?_); (conv => whnf); exact ⟨rfl, rfl⟩) | ((refine br_f (by assumption) ?_); (conv => whnf); exact ⟨rfl, rfl⟩))) | (refine nw_f hS ?_; intro b w1 hS) | refine as_i hS ?_ | refine as_i (hS.subs (List.nil_sublist _) sb9) ?_ | refine as_i (hS.subs (List.Sublist.refl _) sb9) ?_ | refine bar_f hS ?_ | refine ld_f hS 0 rfl rfl ?_ | refine ldA_f hS 0 rfl rfl ?_ | ((first | refine stN_f hS 0 rfl (lb9 rfl) rfl rfl ?_ | refine stM_f hS 0 rfl (lb9 rfl) rfl ?_); (conv => whnf); intro w1 hS) | refine br_f (by assumption) ?_ | (refine dr9 hS ?_; intro w1 hS) | refine br_t (by assumption) ?_ | refine br_f (by assumption) ?_)
      exact ⟨rfl, hS.nil⟩
  · rw [restT5 hk]
    rw [mayR5 hk] at hm
    rw [Bool.and_eq_true] at hm
    have hp := namedB_len hm.1
    have hpt : (pathT x.p).length ≤ 37 := by unfold pathT; rw [List.length_append, be_len]; omega
    have hvk : okV x.v = true := by have := hm.2; unfold verB at this; simp only [Bool.and_eq_true] at this; exact this.2.2.2.2
    have hvl := valT_len hvk
    have g1 : (x.k == 1) = false := by rw [hk]; rfl
    have g2 : (x.k == 2) = false := by rw [hk]; rfl
    have g3 : (x.k == 3) = false := by rw [hk]; rfl
    have g4 : (x.k == 4) = false := by rw [hk]; rfl
    have g5 : (x.k == 5) = true := by rw [hk]; rfl
    have g6 : (x.k == 6) = false := by rw [hk]; rfl
    have g7 : (x.k == 7) = false := by rw [hk]; rfl
    have g8 : (x.k == 8) = false := by rw [hk]; rfl
    refine fc_i TB_ok Tryz.func34 rfl (by kernel_rfl) ?_
    have hS := Sf.refl w
    repeat ((conv => whnf); first | (apply q_i; focus (intro w1 hS; (conv => whnf); first | exact ⟨rfl, rfl⟩ | ((first | refine ld_f hS 0 rfl rfl ?_ | refine ldA_f hS 0 rfl rfl ?_); (conv => whnf); exact ⟨rfl, rfl⟩) | ((refine ldN_f hS 0 rfl (lb9 rfl) ?_); (conv => whnf); exact ⟨rfl, rfl⟩) | ((refine br_t (by assumption) ?_); (conv => whnf); exact ⟨rfl, rfl⟩) | ((refine br_f (by assumption) ?_); (conv => whnf); exact ⟨rfl, rfl⟩) | ((refine .mk ⟨by omega, by omega⟩ ?_); (conv => whnf); exact ⟨rfl, rfl⟩) | ((refine .mk (by simp only [strY_append, strY_size, List.length_append, be_len]; omega) ?_); (conv => whnf); exact ⟨rfl, rfl⟩))) | (refine nw_f hS ?_; intro b w1 hS) | refine as_i hS ?_ | refine as_i (hS.subs (List.nil_sublist _) sb9) ?_ | refine as_i (hS.subs (List.Sublist.refl _) sb9) ?_ | refine bar_f hS ?_ | refine ld_f hS 0 rfl rfl ?_ | refine ldA_f hS 0 rfl rfl ?_ | ((first | refine stN_f hS 0 rfl (lb9 rfl) rfl rfl ?_ | refine stM_f hS 0 rfl (lb9 rfl) rfl ?_); (conv => whnf); intro w1 hS) | refine ldN_f hS 0 rfl (lb9 rfl) ?_ | refine br_t (by assumption) ?_ | refine br_f (by assumption) ?_ | refine .mk ⟨by omega, by omega⟩ ?_ | (refine fc_m (hk8 _) ?_; rintro v w3 ⟨rfl, hS'⟩; replace hS := hS.call0 hS') | (refine fc_m (rtext18_c x.p (by omega) _) ?_; rintro v w3 ⟨rfl, hS'⟩; replace hS := hS.call0 hS') | (refine fc_m (rnw_c x.vi ho.vi 4 (by decide) _) ?_; rintro v w3 ⟨rfl, hS'⟩; replace hS := hS.call0 hS') | (refine fc_m (rnw_c x.vt ho.vt 4 (by decide) _) ?_; rintro v w3 ⟨rfl, hS'⟩; replace hS := hS.call0 hS') | (refine fc_m (rnw_c x.vc (by have := ho.vc; omega) 1 (by decide) _) ?_; rintro v w3 ⟨rfl, hS'⟩; replace hS := hS.call0 hS') | (refine fc_m (rval18_c x.v ho.v hvk h.B h.e _ (hx.v.below hS.nil)) ?_; rintro v w3 ⟨rfl, hS'⟩; replace hS := hS.call0 hS') | refine .mk (by simp only [strY_append, strY_size, List.length_append, be_len]; omega) ?_ | (refine dr9 hS ?_; intro w1 hS) | refine br_t (by assumption) ?_ | refine br_f (by assumption) ?_)
    refine ⟨?_, hS.nil⟩
    simp only [strY_append, List.append_assoc]
  · rw [restT6 hk]
    rw [mayR6 hk] at hm
    have g1 : (x.k == 1) = false := by rw [hk]; rfl
    have g2 : (x.k == 2) = false := by rw [hk]; rfl
    have g3 : (x.k == 3) = false := by rw [hk]; rfl
    have g4 : (x.k == 4) = false := by rw [hk]; rfl
    have g5 : (x.k == 5) = false := by rw [hk]; rfl
    have g6 : (x.k == 6) = true := by rw [hk]; rfl
    have g7 : (x.k == 7) = false := by rw [hk]; rfl
    have g8 : (x.k == 8) = false := by rw [hk]; rfl
    refine fc_i TB_ok Tryz.func34 rfl (by kernel_rfl) ?_
    have hS := Sf.refl w
    repeat ((conv => whnf); first | (apply q_i; focus (intro w1 hS; (conv => whnf); first | exact ⟨rfl, rfl⟩ | ((first | refine ld_f hS 0 rfl rfl ?_ | refine ldA_f hS 0 rfl rfl ?_); (conv => whnf); exact ⟨rfl, rfl⟩) | ((refine ldN_f hS 0 rfl (lb9 rfl) ?_); (conv => whnf); exact ⟨rfl, rfl⟩) | ((refine br_t (by assumption) ?_); (conv => whnf); exact ⟨rfl, rfl⟩) | ((refine br_f (by assumption) ?_); (conv => whnf); exact ⟨rfl, rfl⟩) | ((refine .mk ⟨by omega, by omega⟩ ?_); (conv => whnf); exact ⟨rfl, rfl⟩) | ((refine .mk (by simp only [strY_append, strY_size, List.length_append, be_len]; omega) ?_); (conv => whnf); exact ⟨rfl, rfl⟩))) | (refine nw_f hS ?_; intro b w1 hS) | refine as_i hS ?_ | refine as_i (hS.subs (List.nil_sublist _) sb9) ?_ | refine as_i (hS.subs (List.Sublist.refl _) sb9) ?_ | refine bar_f hS ?_ | refine ld_f hS 0 rfl rfl ?_ | refine ldA_f hS 0 rfl rfl ?_ | ((first | refine stN_f hS 0 rfl (lb9 rfl) rfl rfl ?_ | refine stM_f hS 0 rfl (lb9 rfl) rfl ?_); (conv => whnf); intro w1 hS) | refine ldN_f hS 0 rfl (lb9 rfl) ?_ | refine br_t (by assumption) ?_ | refine br_f (by assumption) ?_ | refine .mk ⟨by omega, by omega⟩ ?_ | (refine fc_m (hk8 _) ?_; rintro v w3 ⟨rfl, hS'⟩; replace hS := hS.call0 hS') | (refine fc_m (rnw_c x.vi ho.vi 4 (by decide) _) ?_; rintro v w3 ⟨rfl, hS'⟩; replace hS := hS.call0 hS') | refine .mk (by simp only [strY_append, strY_size, List.length_append, be_len]; omega) ?_ | (refine dr9 hS ?_; intro w1 hS) | refine br_t (by assumption) ?_ | refine br_f (by assumption) ?_)
    refine ⟨?_, hS.nil⟩
    simp only [strY_append, List.append_assoc]
  · rw [restT7 hk]
    rw [mayR7 hk] at hm
    obtain ⟨q1, q2, q3⟩ := chunkB_in hm
    have g1 : (x.k == 1) = false := by rw [hk]; rfl
    have g2 : (x.k == 2) = false := by rw [hk]; rfl
    have g3 : (x.k == 3) = false := by rw [hk]; rfl
    have g4 : (x.k == 4) = false := by rw [hk]; rfl
    have g5 : (x.k == 5) = false := by rw [hk]; rfl
    have g6 : (x.k == 6) = false := by rw [hk]; rfl
    have g7 : (x.k == 7) = true := by rw [hk]; rfl
    have g8 : (x.k == 8) = false := by rw [hk]; rfl
    refine fc_i TB_ok Tryz.func34 rfl (by kernel_rfl) ?_
    have hS := Sf.refl w
    repeat ((conv => whnf); first | (apply q_i; focus (intro w1 hS; (conv => whnf); first | exact ⟨rfl, rfl⟩ | ((first | refine ld_f hS 0 rfl rfl ?_ | refine ldA_f hS 0 rfl rfl ?_); (conv => whnf); exact ⟨rfl, rfl⟩) | ((refine ldN_f hS 0 rfl (lb9 rfl) ?_); (conv => whnf); exact ⟨rfl, rfl⟩) | ((refine br_t (by assumption) ?_); (conv => whnf); exact ⟨rfl, rfl⟩) | ((refine br_f (by assumption) ?_); (conv => whnf); exact ⟨rfl, rfl⟩) | ((refine .mk ⟨by omega, by omega⟩ ?_); (conv => whnf); exact ⟨rfl, rfl⟩) | ((refine .mk (by simp only [strY_append, strY_size, List.length_append, be_len]; omega) ?_); (conv => whnf); exact ⟨rfl, rfl⟩))) | (refine nw_f hS ?_; intro b w1 hS) | refine as_i hS ?_ | refine as_i (hS.subs (List.nil_sublist _) sb9) ?_ | refine as_i (hS.subs (List.Sublist.refl _) sb9) ?_ | refine bar_f hS ?_ | refine ld_f hS 0 rfl rfl ?_ | refine ldA_f hS 0 rfl rfl ?_ | ((first | refine stN_f hS 0 rfl (lb9 rfl) rfl rfl ?_ | refine stM_f hS 0 rfl (lb9 rfl) rfl ?_); (conv => whnf); intro w1 hS) | refine ldN_f hS 0 rfl (lb9 rfl) ?_ | refine br_t (by assumption) ?_ | refine br_f (by assumption) ?_ | refine .mk ⟨by omega, by omega⟩ ?_ | (refine fc_m (hk8 _) ?_; rintro v w3 ⟨rfl, hS'⟩; replace hS := hS.call0 hS') | (refine fc_m (rnw_c x.ci ho.ci 4 (by decide) _) ?_; rintro v w3 ⟨rfl, hS'⟩; replace hS := hS.call0 hS') | (refine fc_m (rn18_c x.cb q1.1 (by omega) 2 (by decide) _) ?_; rintro v w3 ⟨rfl, hS'⟩; replace hS := hS.call0 hS') | (refine fc_m (rn18_c x.cr q2.1 (by omega) 2 (by decide) _) ?_; rintro v w3 ⟨rfl, hS'⟩; replace hS := hS.call0 hS') | (refine fc_m (rn18_c x.cs q3.1 (by omega) 1 (by decide) _) ?_; rintro v w3 ⟨rfl, hS'⟩; replace hS := hS.call0 hS') | refine .mk (by simp only [strY_append, strY_size, List.length_append, be_len]; omega) ?_ | (refine dr9 hS ?_; intro w1 hS) | refine br_t (by assumption) ?_ | refine br_f (by assumption) ?_)
    refine ⟨?_, hS.nil⟩
    simp only [strY_append, List.append_assoc]
  · rw [restT8 hk]
    rw [mayR8 hk] at hm
    rw [Bool.and_eq_true, Bool.and_eq_true] at hm
    have hp := namedB_len hm.2.1
    have hpt : (pathT x.p).length ≤ 37 := by unfold pathT; rw [List.length_append, be_len]; omega
    have hcl := ctxT_len x.g
    have g1 : (x.k == 1) = false := by rw [hk]; rfl
    have g2 : (x.k == 2) = false := by rw [hk]; rfl
    have g3 : (x.k == 3) = false := by rw [hk]; rfl
    have g4 : (x.k == 4) = false := by rw [hk]; rfl
    have g5 : (x.k == 5) = false := by rw [hk]; rfl
    have g6 : (x.k == 6) = false := by rw [hk]; rfl
    have g7 : (x.k == 7) = false := by rw [hk]; rfl
    have g8 : (x.k == 8) = true := by rw [hk]; rfl
    refine fc_i TB_ok Tryz.func34 rfl (by kernel_rfl) ?_
    have hS := Sf.refl w
    repeat ((conv => whnf); first | (apply q_i; focus (intro w1 hS; (conv => whnf); first | exact ⟨rfl, rfl⟩ | ((first | refine ld_f hS 0 rfl rfl ?_ | refine ldA_f hS 0 rfl rfl ?_); (conv => whnf); exact ⟨rfl, rfl⟩) | ((refine ldN_f hS 0 rfl (lb9 rfl) ?_); (conv => whnf); exact ⟨rfl, rfl⟩) | ((refine br_t (by assumption) ?_); (conv => whnf); exact ⟨rfl, rfl⟩) | ((refine br_f (by assumption) ?_); (conv => whnf); exact ⟨rfl, rfl⟩) | ((refine .mk ⟨by omega, by omega⟩ ?_); (conv => whnf); exact ⟨rfl, rfl⟩) | ((refine .mk (by simp only [strY_append, strY_size, List.length_append, be_len]; omega) ?_); (conv => whnf); exact ⟨rfl, rfl⟩))) | (refine nw_f hS ?_; intro b w1 hS) | refine as_i hS ?_ | refine as_i (hS.subs (List.nil_sublist _) sb9) ?_ | refine as_i (hS.subs (List.Sublist.refl _) sb9) ?_ | refine bar_f hS ?_ | refine ld_f hS 0 rfl rfl ?_ | refine ldA_f hS 0 rfl rfl ?_ | ((first | refine stN_f hS 0 rfl (lb9 rfl) rfl rfl ?_ | refine stM_f hS 0 rfl (lb9 rfl) rfl ?_); (conv => whnf); intro w1 hS) | refine ldN_f hS 0 rfl (lb9 rfl) ?_ | refine br_t (by assumption) ?_ | refine br_f (by assumption) ?_ | refine .mk ⟨by omega, by omega⟩ ?_ | (refine fc_m (hk8 _) ?_; rintro v w3 ⟨rfl, hS'⟩; replace hS := hS.call0 hS') | (refine fc_m (rnw_c x.r (by have := ho.r; omega) 1 (by decide) _) ?_; rintro v w3 ⟨rfl, hS'⟩; replace hS := hS.call0 hS') | (refine fc_m (rtext18_c x.p (by omega) _) ?_; rintro v w3 ⟨rfl, hS'⟩; replace hS := hS.call0 hS') | (refine fc_m (rvec18_c x.g (fun j hj => ⟨(ho.g j hj).1, mayVB_le hm.2.2 j hj⟩) _) ?_; rintro v w3 ⟨rfl, hS'⟩; replace hS := hS.call0 hS') | refine .mk (by simp only [strY_append, strY_size, List.length_append, be_len]; omega) ?_ | (refine dr9 hS ?_; intro w1 hS) | refine br_t (by assumption) ?_ | refine br_f (by assumption) ?_)
    refine ⟨?_, hS.nil⟩
    simp only [strY_append, List.append_assoc]
end Go.RV
