/- Texts of mine, packed for a claim (bundle.py). Conditions: none. -/
import Derived.Test.YtlebdkdjjegpgaaGreatK5x7
import Derived.Deep.Strs
import Derived.Deep.Fields
set_option maxRecDepth 20000
set_option linter.unusedVariables false
set_option linter.unusedSimpArgs false
namespace Go.RV
open Go Go.Proofs Go.RowKit

theorem record8_c (bd bq : Nat) (S : List UInt8) (s : RS) (L : LM) (hQ : Q8 bd bq S s L) (hs : S.length ≤ 4611686018427387904) (w : World) (hS : St (keys L) w w L) :
    Fc Tryz.prog 32 [.pointer (some ⟨bd, 0, none⟩)] w (Got8 bd bq S s (keys L) w) := by
  rcases kinds (numW 1 s) with hk | hk | hk | hk | hk | hk | hk | hk | hk
  · exact rec8k1_c bd bq S s L hQ hs w hS hk
  · exact rec8k2_c bd bq S s L hQ hs w hS hk
  · exact rec8k3_c bd bq S s L hQ hs w hS hk
  · exact rec8k4_c bd bq S s L hQ hs w hS hk
  · exact rec8k5_c bd bq S s L hQ hs w hS hk
  · exact rec8k6_c bd bq S s L hQ hs w hS hk
  · exact rec8k7_c bd bq S s L hQ hs w hS hk
  · exact rec8k8_c bd bq S s L hQ hs w hS hk
  · exact rec8k9_c bd bq S s L hQ hs w hS hk
theorem elR8 : ElemOk Tryz.prog TB 27 63 36 224 := ⟨rfl, ⟨_, _, inf63, rfl, rfl, rfl, rfl⟩, by decide⟩
set_option maxHeartbeats 8000000 in
theorem rTake18_c (s : List UInt8) (hs : s.length ≤ 1000000) (w : World) :
    Fc Tryz.prog 10 [.string (strY s)] w (PT s w) := by
  refine fc_i TB_ok Tryz.func10 rfl (by kernel_rfl) ?_
  have hS := Sf.refl w
  repeat ((conv => whnf); first | (apply q_i; focus (intro w1 hS; (conv => whnf); first | exact ⟨rfl, rfl⟩ | ((first | refine ld_f hS 0 rfl rfl ?_ | refine ld_f hS 1 rfl rfl ?_ | refine ldA_f hS 0 rfl rfl ?_ | refine ldA_f hS 1 rfl rfl ?_); (conv => whnf); exact ⟨rfl, rfl⟩))) | (refine nw_f hS ?_; intro b w1 hS) | refine as_i hS ?_ | refine as_i (hS.subs (List.nil_sublist _) sb9) ?_ | refine as_i (hS.subs (List.Sublist.refl _) sb9) ?_ | refine bar_f hS ?_ | refine ld_f hS 0 rfl rfl ?_ | refine ld_f hS 1 rfl rfl ?_ | refine ldA_f hS 0 rfl rfl ?_ | refine ldA_f hS 1 rfl rfl ?_ | ((first | refine stN_f hS 0 rfl (lb9 rfl) rfl rfl ?_ | refine stN_f hS 1 rfl (lb9 rfl) rfl rfl ?_ | refine stM_f hS 0 rfl (lb9 rfl) rfl ?_ | refine stM_f hS 1 rfl (lb9 rfl) rfl ?_); (conv => whnf); intro w1 hS) | (refine dr9 hS ?_; intro w1 hS) | refine br_t (by assumption) ?_ | refine br_f (by assumption) ?_)
  have hQ0 : ∀ bd bq, Q8 bd bq s ⟨s, 0⟩ [(bd, qr8O bq 0), (bq, qdO s 0 0)] := fun bd bq => ⟨_, _, ⟨0, rfl, Nat.zero_le _, fun _ => rfl, fun h => absurd rfl h⟩, fun _ => rfl, rfl⟩
  replace hS : Sf [] w _ ([(_, qr8O _ 0), (_, qdO s 0 0)] ++ ([] ++ ([] ++ []))) [] := ⟨hS.st⟩
  refine loop_i TB_ok (fun y : List UInt8 × Option Addr × Nat × Nat => [(0, .string (strY y.1)), (5, .slice y.2.1 y.2.2.2 y.2.2.1)]) (fun y w' => ∃ rs Lq Lx Li, y.2.2.2 = rs.length ∧ Q8 _ _ s ⟨y.1, 0⟩ Lq ∧ takeA y.1 (rs.map Rm.x) = takeR s ∧ (∀ w'', Holds w'' Li → ∀ m ∈ rs, MemR w'' m.x m.h m.ms) ∧ Sl 63 36 (.slice y.2.1 rs.length y.2.2.1) rs.length (flat encRm rs) Lx ∧ rs.length + y.1.length ≤ s.length ∧
    Sf [] w w' (Lq ++ (Lx ++ (Li ++ []))) []) (fun y => y.1.length) (s, none, 0, 0) rfl ⟨[], _, [], [], rfl, hQ0 _ _, rfl, (fun _ _ m hm => (nomatch hm)), .nil, by simp, hS⟩ ?_
  rintro ⟨r, A, c, n⟩ us w4 ⟨rs, Lq, Lx, Li, hn, hQ, hT, hin, hv, hlen, hS⟩
  simp only at hn hQ hT hin hv hlen
  subst hn
  have hrz := strY_size r
  have hB : s.length ≤ 4611686018427387904 := by omega
  by_cases hr : r = []
  · subst hr
    have g0 : decide ((0 : Int) < ((strY ([] : List UInt8)).size : Int)) = false := decide_eq_false (by rw [hrz]; decide)
    rw [takeA_nil] at hT
    generalize strY ([] : List UInt8) = rr at *
    repeat ((conv => whnf); first | (apply q_i; focus (intro w1 hS; (conv => whnf); first | exact ⟨rfl, rfl⟩ | ((first | refine ld_f hS 0 rfl rfl ?_ | refine ld_f hS 1 rfl rfl ?_ | refine ldA_f hS 0 rfl rfl ?_ | refine ldA_f hS 1 rfl rfl ?_); (conv => whnf); exact ⟨rfl, rfl⟩))) | (refine nw_f hS ?_; intro b w1 hS) | refine as_i hS ?_ | refine as_i (hS.subs (List.nil_sublist _) sb9) ?_ | refine as_i (hS.subs (List.Sublist.refl _) sb9) ?_ | refine bar_f hS ?_ | refine ld_f hS 0 rfl rfl ?_ | refine ld_f hS 1 rfl rfl ?_ | refine ldA_f hS 0 rfl rfl ?_ | refine ldA_f hS 1 rfl rfl ?_ | ((first | refine stN_f hS 0 rfl (lb9 rfl) rfl rfl ?_ | refine stN_f hS 1 rfl (lb9 rfl) rfl rfl ?_ | refine stM_f hS 0 rfl (lb9 rfl) rfl ?_ | refine stM_f hS 1 rfl (lb9 rfl) rfl ?_); (conv => whnf); intro w1 hS) | (refine dr9 hS ?_; intro w1 hS) | refine br_t (by assumption) ?_ | refine br_f (by assumption) ?_)
    exact ⟨A, c, rs, Lx ++ Li, by rw [← hT], by rw [← hT], fun w'' hH => ⟨hv.rdK hH.left, hin w'' hH.right⟩, hS.st.sub (by
      simp only [List.append_nil]
      exact List.sublist_append_right _ _)⟩
  · have g0 : decide ((0 : Int) < ((strY r).size : Int)) = true := decide_eq_true (by rw [hrz]; cases r <;> simp_all)
    rw [takeA_cons hr] at hT
    repeat ((conv => whnf); first | (apply q_i; focus (intro w1 hS; (conv => whnf); first | exact ⟨rfl, rfl⟩ | ((first | refine ld_f hS 0 rfl rfl ?_ | refine ld_f hS 1 rfl rfl ?_ | refine ldA_f hS 0 rfl rfl ?_ | refine ldA_f hS 1 rfl rfl ?_); (conv => whnf); exact ⟨rfl, rfl⟩))) | (refine nw_f hS ?_; intro b w1 hS) | refine as_i hS ?_ | refine as_i (hS.subs (List.nil_sublist _) sb9) ?_ | refine as_i (hS.subs (List.Sublist.refl _) sb9) ?_ | refine bar_f hS ?_ | refine ld_f hS 0 rfl rfl ?_ | refine ld_f hS 1 rfl rfl ?_ | refine ldA_f hS 0 rfl rfl ?_ | refine ldA_f hS 1 rfl rfl ?_ | ((first | refine stN_f hS 0 rfl (lb9 rfl) rfl rfl ?_ | refine stN_f hS 1 rfl (lb9 rfl) rfl rfl ?_ | refine stM_f hS 0 rfl (lb9 rfl) rfl ?_ | refine stM_f hS 1 rfl (lb9 rfl) rfl ?_); (conv => whnf); intro w1 hS) | (refine dr9 hS ?_; intro w1 hS) | refine br_t (by assumption) ?_ | refine br_f (by assumption) ?_)
    refine fc_m (record8_c _ _ s ⟨r, 0⟩ _ hQ hB _ hS.ownF) ?_
    rintro v w5 ⟨x, h, ms, Lb, rfl, hx, hH, L2, hQ2, hS'⟩
    replace hS := (hS.callW hS').join
    have hok := oneR_ok ⟨r, 0⟩
    have htl := oneR_tail (r := r)
    have hls := @oneR_less r
    generalize oneR ⟨r, 0⟩ = t at *
    obtain ⟨st, xx⟩ := t
    simp only at hx hok htl hls hT hQ2
    obtain ⟨q, Lq2, hQq, hq, rfl⟩ := hQ2.out
    replace hS := hS.out8
    by_cases he : st.e = 0
    case neg =>
      have ge : (st.e != 0) = true := by simp [he]
      rw [if_pos he] at hT
      repeat ((conv => whnf); first | (apply q_i; focus (intro w1 hS; (conv => whnf); first | exact ⟨rfl, rfl⟩ | ((first | refine ld_f hS 0 rfl rfl ?_ | refine ld_f hS 1 rfl rfl ?_ | refine ld_f hS 2 rfl rfl ?_ | refine ldA_f hS 0 rfl rfl ?_ | refine ldA_f hS 1 rfl rfl ?_ | refine ldA_f hS 2 rfl rfl ?_); (conv => whnf); exact ⟨rfl, rfl⟩))) | (refine nw_f hS ?_; intro b w1 hS) | refine as_i hS ?_ | refine as_i (hS.subs (List.nil_sublist _) sb9) ?_ | refine as_i (hS.subs (List.Sublist.refl _) sb9) ?_ | refine bar_f hS ?_ | refine ld_f hS 0 rfl rfl ?_ | refine ld_f hS 1 rfl rfl ?_ | refine ld_f hS 2 rfl rfl ?_ | refine ldA_f hS 0 rfl rfl ?_ | refine ldA_f hS 1 rfl rfl ?_ | refine ldA_f hS 2 rfl rfl ?_ | ((first | refine stN_f hS 0 rfl (lb9 rfl) rfl rfl ?_ | refine stN_f hS 1 rfl (lb9 rfl) rfl rfl ?_ | refine stN_f hS 2 rfl (lb9 rfl) rfl rfl ?_ | refine stM_f hS 0 rfl (lb9 rfl) rfl ?_ | refine stM_f hS 1 rfl (lb9 rfl) rfl ?_ | refine stM_f hS 2 rfl (lb9 rfl) rfl ?_); (conv => whnf); intro w1 hS) | (refine dr9 hS ?_; intro w1 hS) | refine br_t (by assumption) ?_ | refine br_f (by assumption) ?_)
      exact failT hT.symm hS.nil
    have ge : (st.e != 0) = false := by simp [he]
    obtain rfl := hx he
    obtain rfl := hq he
    rw [if_neg (by rw [he]; decide)] at hT
    have hl2 := hls he
    have hqz := strY_size q.rest
    have hmem : ∀ {w' : World} {L : LM}, Sf [] w w' (Lq2 ++ (Lx ++ ((Li ++ Lb) ++ []))) L → MemR w' x h ms := fun h => hH _ (h.st.holds (fun y hy => by simp [hy]))
    have hmay := fun w' => rMay18_c x hok.1 hok.2 h ms w'
    have hk : IntKind.i64.wrap (((strY r).size : Int) - ((strY q.rest).size : Int)) = ((r.length - q.rest.length : Nat) : Int) := by
      rw [wrap_i64 (by omega) (by omega)]
      omega
    have hbd : 0 ≤ IntKind.i64.wrap (((strY r).size : Int) - ((strY q.rest).size : Int)) ∧ IntKind.i64.wrap (((strY r).size : Int) - ((strY q.rest).size : Int)) ≤ ((strY r).size : Int) := by rw [hk]; omega
    repeat ((conv => whnf); first | (apply q_i; focus (intro w1 hS; (conv => whnf); first | exact ⟨rfl, rfl⟩ | ((first | refine ld_f hS 0 rfl rfl ?_ | refine ld_f hS 1 rfl rfl ?_ | refine ld_f hS 2 rfl rfl ?_ | refine ldA_f hS 0 rfl rfl ?_ | refine ldA_f hS 1 rfl rfl ?_ | refine ldA_f hS 2 rfl rfl ?_); (conv => whnf); exact ⟨rfl, rfl⟩))) | (refine nw_f hS ?_; intro b w1 hS) | refine as_i hS ?_ | refine as_i (hS.subs (List.nil_sublist _) sb9) ?_ | refine as_i (hS.subs (List.Sublist.refl _) sb9) ?_ | refine bar_f hS ?_ | refine ld_f hS 0 rfl rfl ?_ | refine ld_f hS 1 rfl rfl ?_ | refine ld_f hS 2 rfl rfl ?_ | refine ldA_f hS 0 rfl rfl ?_ | refine ldA_f hS 1 rfl rfl ?_ | refine ldA_f hS 2 rfl rfl ?_ | ((first | refine stN_f hS 0 rfl (lb9 rfl) rfl rfl ?_ | refine stN_f hS 1 rfl (lb9 rfl) rfl rfl ?_ | refine stN_f hS 2 rfl (lb9 rfl) rfl rfl ?_ | refine stM_f hS 0 rfl (lb9 rfl) rfl ?_ | refine stM_f hS 1 rfl (lb9 rfl) rfl ?_ | refine stM_f hS 2 rfl (lb9 rfl) rfl ?_); (conv => whnf); intro w1 hS) | (refine dr9 hS ?_; intro w1 hS) | refine br_t (by assumption) ?_ | refine br_f (by assumption) ?_)
    refine fc_m (qrest_c _ s q Lq2 hQq _ hS.ownF) ?_
    rintro v w6 ⟨rfl, hS'⟩
    replace hS := hS.call0 hS'
    cases hc : checkR x with
    | false =>
      rw [if_pos hc] at hT
      rw [hc] at hmay
      repeat' ((conv => whnf); first | refine And.intro ?_ ?_ | (apply q_i; focus (intro w1 hS; (conv => whnf); first | exact ⟨rfl, rfl⟩ | ((first | refine ld_f hS 0 rfl rfl ?_ | refine ld_f hS 1 rfl rfl ?_ | refine ld_f hS 2 rfl rfl ?_ | refine ldA_f hS 0 rfl rfl ?_ | refine ldA_f hS 1 rfl rfl ?_ | refine ldA_f hS 2 rfl rfl ?_); (conv => whnf); exact ⟨rfl, rfl⟩))) | (refine nw_f hS ?_; intro b w1 hS) | refine as_i hS ?_ | refine as_i (hS.subs (List.nil_sublist _) sb9) ?_ | refine as_i (hS.subs (List.Sublist.refl _) sb9) ?_ | refine bar_f hS ?_ | refine ld_f hS 0 rfl rfl ?_ | refine ld_f hS 1 rfl rfl ?_ | refine ld_f hS 2 rfl rfl ?_ | refine ldA_f hS 0 rfl rfl ?_ | refine ldA_f hS 1 rfl rfl ?_ | refine ldA_f hS 2 rfl rfl ?_ | ((first | refine stN_f hS 0 rfl (lb9 rfl) rfl rfl ?_ | refine stN_f hS 1 rfl (lb9 rfl) rfl rfl ?_ | refine stN_f hS 2 rfl (lb9 rfl) rfl rfl ?_ | refine stM_f hS 0 rfl (lb9 rfl) rfl ?_ | refine stM_f hS 1 rfl (lb9 rfl) rfl ?_ | refine stM_f hS 2 rfl (lb9 rfl) rfl ?_); (conv => whnf); intro w1 hS) | (refine fc_m (hmay _ (hmem hS)) ?_; rintro v w3 ⟨rfl, hS'⟩; replace hS := hS.call0 hS') | (refine dr9 hS ?_; intro w1 hS) | refine br_t (by assumption) ?_ | refine br_f (by assumption) ?_)
      all_goals exact failT hT.symm hS.nil
    | true =>
      rw [if_neg (by rw [hc]; decide)] at hT
      rw [hc] at hmay
      have htx := fun w' => rText18_c x hok.1 hc h ms w'
      have hcmp : (!streq (strY (recT x)) ((strY r).extract 0 (IntKind.i64.wrap (((strY r).size : Int) - ((strY q.rest).size : Int))).toNat)) = !decide (recT x = r.take (r.length - q.rest.length)) := by
        rw [hk, Int.toNat_natCast, strY_take, streq_strY]
      by_cases hcp : recT x = r.take (r.length - q.rest.length)
      · rw [decide_eq_true hcp] at hcmp
        rw [if_neg (by simp [hcp])] at hT
        replace hcmp : (!streq (strY (recT x)) ((strY r).extract 0 (IntKind.i64.wrap (((strY r).size : Int) - ((strY q.rest).size : Int))).toNat)) = false := hcmp
        repeat' ((conv => whnf); first | refine And.intro ?_ ?_ | (apply q_i; focus (intro w1 hS; (conv => whnf); first | exact ⟨rfl, rfl⟩ | ((first | refine ld_f hS 0 rfl rfl ?_ | refine ld_f hS 1 rfl rfl ?_ | refine ld_f hS 2 rfl rfl ?_ | refine ldA_f hS 0 rfl rfl ?_ | refine ldA_f hS 1 rfl rfl ?_ | refine ldA_f hS 2 rfl rfl ?_); (conv => whnf); exact ⟨rfl, rfl⟩) | ((refine .mk ⟨hbd.1, hbd.2⟩ ?_); (conv => whnf); exact ⟨rfl, rfl⟩))) | (refine nw_f hS ?_; intro b w1 hS) | refine as_i hS ?_ | refine as_i (hS.subs (List.nil_sublist _) sb9) ?_ | refine as_i (hS.subs (List.Sublist.refl _) sb9) ?_ | refine bar_f hS ?_ | refine ld_f hS 0 rfl rfl ?_ | refine ld_f hS 1 rfl rfl ?_ | refine ld_f hS 2 rfl rfl ?_ | refine ldA_f hS 0 rfl rfl ?_ | refine ldA_f hS 1 rfl rfl ?_ | refine ldA_f hS 2 rfl rfl ?_ | ((first | refine stN_f hS 0 rfl (lb9 rfl) rfl rfl ?_ | refine stN_f hS 1 rfl (lb9 rfl) rfl rfl ?_ | refine stN_f hS 2 rfl (lb9 rfl) rfl rfl ?_ | refine stM_f hS 0 rfl (lb9 rfl) rfl ?_ | refine stM_f hS 1 rfl (lb9 rfl) rfl ?_ | refine stM_f hS 2 rfl (lb9 rfl) rfl ?_); (conv => whnf); intro w1 hS) | (refine fc_m (hmay _ (hmem hS)) ?_; rintro v w3 ⟨rfl, hS'⟩; replace hS := hS.call0 hS') | (refine fc_m (htx _ (hmem hS)) ?_; rintro v w3 ⟨rfl, hS'⟩; replace hS := hS.call0 hS') | refine .mk ⟨hbd.1, hbd.2⟩ ?_ | (refine dr9 hS ?_; intro w1 hS) | refine br_t (by assumption) ?_ | refine br_f (by assumption) ?_)
        (conv => whnf)
        replace hS := hS.rot
        refine app_f TB_ok elR8 hS hv (show Rd _ _ (flat encRm [⟨x, h, ms⟩]) from hS.rd 0 rfl) rfl (fun y hy => encRm_one _ y (by simpa [flat] using hy)) (by omega) (by omega) ?_
        intro v' Lv' w9 hv' hS
        obtain ⟨A', c', rfl, hv'⟩ := hv'.open
        replace hS := hS.rot
        repeat ((conv => whnf); first | (apply q_i; focus (intro w1 hS; (conv => whnf); first | exact ⟨rfl, rfl⟩ | ((first | refine ld_f hS 0 rfl rfl ?_ | refine ld_f hS 1 rfl rfl ?_ | refine ld_f hS 2 rfl rfl ?_ | refine ld_f hS 3 rfl rfl ?_ | refine ldA_f hS 0 rfl rfl ?_ | refine ldA_f hS 1 rfl rfl ?_ | refine ldA_f hS 2 rfl rfl ?_ | refine ldA_f hS 3 rfl rfl ?_); (conv => whnf); exact ⟨rfl, rfl⟩))) | (refine nw_f hS ?_; intro b w1 hS) | refine as_i hS ?_ | refine as_i (hS.subs (List.nil_sublist _) sb9) ?_ | refine as_i (hS.subs (List.Sublist.refl _) sb9) ?_ | refine bar_f hS ?_ | refine ld_f hS 0 rfl rfl ?_ | refine ld_f hS 1 rfl rfl ?_ | refine ld_f hS 2 rfl rfl ?_ | refine ld_f hS 3 rfl rfl ?_ | refine ldA_f hS 0 rfl rfl ?_ | refine ldA_f hS 1 rfl rfl ?_ | refine ldA_f hS 2 rfl rfl ?_ | refine ldA_f hS 3 rfl rfl ?_ | ((first | refine stN_f hS 0 rfl (lb9 rfl) rfl rfl ?_ | refine stN_f hS 1 rfl (lb9 rfl) rfl rfl ?_ | refine stN_f hS 2 rfl (lb9 rfl) rfl rfl ?_ | refine stN_f hS 3 rfl (lb9 rfl) rfl rfl ?_ | refine stM_f hS 0 rfl (lb9 rfl) rfl ?_ | refine stM_f hS 1 rfl (lb9 rfl) rfl ?_ | refine stM_f hS 2 rfl (lb9 rfl) rfl ?_ | refine stM_f hS 3 rfl (lb9 rfl) rfl ?_); (conv => whnf); intro w1 hS) | refine br_t (by assumption) ?_ | refine br_f (by assumption) ?_)
        (conv => whnf)
        replace hS : Sf [] w _ (Lq2 ++ (Lv' ++ ((Li ++ Lb) ++ []))) [(_, qr8O _ q.e)] := hS.subs (List.Sublist.refl _) (.cons _ (.cons _ (.refl _)))
        have hst : q = ⟨q.rest, 0⟩ := rs_eta he
        refine ⟨rfl, (q.rest, A', c', rs.length + 1), rfl, ⟨rs ++ [⟨x, h, ms⟩], (_, qr8O _ q.e) :: Lq2, Lv', Li ++ Lb, ?_, ?_, ?_, ?_, ?_, ?_, hS.in8⟩, hl2⟩
        · simp
        · rw [← hst]
          exact ⟨q, Lq2, hQq, fun _ => rfl, rfl⟩
        · rw [List.map_append]
          exact hT
        · intro w'' hh m hm
          rcases List.mem_append.1 hm with h' | h'
          · exact hin w'' hh.left m h'
          · obtain rfl := List.mem_singleton.1 h'
            exact hH w'' hh.right
        · rw [flat_append, List.length_append]
          exact hv'
        · rw [List.length_append, List.length_singleton]
          simp only
          omega
      · rw [decide_eq_false hcp] at hcmp
        rw [if_pos hcp] at hT
        replace hcmp : (!streq (strY (recT x)) ((strY r).extract 0 (IntKind.i64.wrap (((strY r).size : Int) - ((strY q.rest).size : Int))).toNat)) = true := hcmp
        repeat' ((conv => whnf); first | refine And.intro ?_ ?_ | (apply q_i; focus (intro w1 hS; (conv => whnf); first | exact ⟨rfl, rfl⟩ | ((first | refine ld_f hS 0 rfl rfl ?_ | refine ld_f hS 1 rfl rfl ?_ | refine ld_f hS 2 rfl rfl ?_ | refine ldA_f hS 0 rfl rfl ?_ | refine ldA_f hS 1 rfl rfl ?_ | refine ldA_f hS 2 rfl rfl ?_); (conv => whnf); exact ⟨rfl, rfl⟩) | ((refine .mk ⟨hbd.1, hbd.2⟩ ?_); (conv => whnf); exact ⟨rfl, rfl⟩))) | (refine nw_f hS ?_; intro b w1 hS) | refine as_i hS ?_ | refine as_i (hS.subs (List.nil_sublist _) sb9) ?_ | refine as_i (hS.subs (List.Sublist.refl _) sb9) ?_ | refine bar_f hS ?_ | refine ld_f hS 0 rfl rfl ?_ | refine ld_f hS 1 rfl rfl ?_ | refine ld_f hS 2 rfl rfl ?_ | refine ldA_f hS 0 rfl rfl ?_ | refine ldA_f hS 1 rfl rfl ?_ | refine ldA_f hS 2 rfl rfl ?_ | ((first | refine stN_f hS 0 rfl (lb9 rfl) rfl rfl ?_ | refine stN_f hS 1 rfl (lb9 rfl) rfl rfl ?_ | refine stN_f hS 2 rfl (lb9 rfl) rfl rfl ?_ | refine stM_f hS 0 rfl (lb9 rfl) rfl ?_ | refine stM_f hS 1 rfl (lb9 rfl) rfl ?_ | refine stM_f hS 2 rfl (lb9 rfl) rfl ?_); (conv => whnf); intro w1 hS) | (refine fc_m (hmay _ (hmem hS)) ?_; rintro v w3 ⟨rfl, hS'⟩; replace hS := hS.call0 hS') | (refine fc_m (htx _ (hmem hS)) ?_; rintro v w3 ⟨rfl, hS'⟩; replace hS := hS.call0 hS') | refine .mk ⟨hbd.1, hbd.2⟩ ?_ | (refine dr9 hS ?_; intro w1 hS) | refine br_t (by assumption) ?_ | refine br_f (by assumption) ?_)
        all_goals exact failT hT.symm hS.nil
end Go.RV

set_option maxRecDepth 20000
set_option linter.unusedVariables false
set_option linter.unusedSimpArgs false
namespace Go.RV
open Go Go.Proofs Go.RowKit

/-- a copy of the siblings, wherever these blocks hold -/
def ThR (A : Option Addr) (ms : List Sm) (Lv : LM) : Prop := ∀ w'', Holds w'' Lv → Rd w'' A (flat encM ms)
theorem their18T_c (x : Rx) (h : Hd) (ms : List Sm) (hn : x.xs.length ≤ 1000000) (w : World) (hx : MemR w x h ms) :
    Fc Tryz.prog 17 [recV x h] w fun v w' => ∃ A c Lv, v = recV x ⟨A, c, h.B, h.e⟩ ∧ ThR A ms Lv ∧ St [] w w' Lv := their18_c x h ms w hx hn
theorem ThR.mem {x : Rx} {h : Hd} {ms : List Sm} {A : Option Addr} {c : Nat} {Lv F L : LM} {w w' : World} (t : ThR A ms Lv) (hx : MemR w x h ms) (hS : Sf [] w w' F L) (hs : ∀ y ∈ Lv, y ∈ F) : MemR w' x ⟨A, c, h.B, h.e⟩ ms :=
  ⟨hx.eq, ⟨t _ (hS.st.holds (Ls := Lv) (fun y hy => by simp [hs y hy])), fun m hm => (hx.l.el m hm).below hS.nil⟩, hx.v.below hS.nil⟩
theorem rd_left {w : World} {A : Option Addr} {xs ys : List Value} (h : Rd w A (xs ++ ys)) : Rd w A xs := by
  rcases h with h | ⟨b, off, e, h⟩
  · exact .inl (List.append_eq_nil_iff.1 h).1
  · exact .inr ⟨b, off, e, fun j v hj => h j v (by rw [List.getElem?_append_left (List.getElem?_eq_some_iff.1 hj).1]; exact hj)⟩
theorem RdR.one {w : World} {b off : Nat} {r q : Rm} (h : RdR w (some ⟨b, off, none⟩) [r, q]) : RdR w (some ⟨b, off, none⟩) [r] :=
  ⟨rd_left (ys := encRm q ++ []) (by have := h.rd; rwa [show flat encRm [r, q] = flat encRm [r] ++ (encRm q ++ []) by simp [flat]] at this), fun y hy => h.el y (by simp_all)⟩
end Go.RV

set_option maxRecDepth 20000
set_option linter.unusedVariables false
set_option linter.unusedSimpArgs false
namespace Go.RV
open Go Go.Proofs Go.RowKit

theorem same18_c (A B : Option Addr) (c e : Nat) (rs ss : List Rm) (hm : rs.map Rm.x = ss.map Rm.x) (hf : ∀ r ∈ rs, fewR r.x) (hl : rs.length ≤ 1000000) (w : World) (hR : RdR w A rs) (hR2 : RdR w B ss) :
    Fc Tryz.prog 11 [.slice A rs.length c, .slice B ss.length e] w fun v w' => v = .bool true ∧ St [] w w' [] := by
  have hls : ss.length = rs.length := by have := congrArg List.length hm; simpa using this.symm
  have g1 : ((rs.length : Int) != (rs.length : Int)) = false := by simp
  rw [hls]
  refine fc_i TB_ok Tryz.func11 rfl (by kernel_rfl) ?_
  have hS := Sf.refl w
  repeat ((conv => whnf); first | (apply q_i; focus (intro w1 hS; (conv => whnf); first | exact ⟨rfl, rfl⟩)) | (refine nw_f hS ?_; intro b w1 hS) | refine as_i hS ?_ | refine as_i (hS.subs (List.nil_sublist _) sb9) ?_ | refine as_i (hS.subs (List.Sublist.refl _) sb9) ?_ | refine bar_f hS ?_ | (refine dr9 hS ?_; intro w1 hS) | refine br_t (by assumption) ?_ | refine br_f (by assumption) ?_)
  refine loop_i TB_ok (fun i : Nat => [(5, .int .i64 i)]) (fun i w' => i ≤ rs.length ∧ Sf [] w w' [] []) (fun i => rs.length - i) 0 rfl ⟨Nat.zero_le _, hS⟩ ?_
  rintro i us w2 ⟨hi, hS⟩
  repeat ((conv => whnf); first | (apply q_i; focus (intro w1 hS; (conv => whnf); first | exact ⟨rfl, rfl⟩)) | (refine nw_f hS ?_; intro b w1 hS) | refine as_i hS ?_ | refine as_i (hS.subs (List.nil_sublist _) sb9) ?_ | refine as_i (hS.subs (List.Sublist.refl _) sb9) ?_ | refine bar_f hS ?_ | (refine dr9 hS ?_; intro w1 hS) | refine br_t (by assumption) ?_ | refine br_f (by assumption) ?_)
  (conv => whnf)
  refine br_i (fun hb => ?_) (fun hb => ?_)
  · have hlt : i < rs.length := by have := of_decide_eq_true hb; omega
    have hlt2 : i < ss.length := by omega
    obtain ⟨x0, off, hA⟩ := hR.rd.form (flat_ne encRm_len (by omega) hlt)
    have hRA : ∀ {w' : World}, St [] w w' [] → Rd w' (some ⟨x0, off, none⟩) (flat encRm rs) := fun {w'} hs => by
      have := hR.rd.below hs
      rwa [hA] at this
    obtain ⟨x1, off1, hB⟩ := hR2.rd.form (flat_ne encRm_len (by omega) hlt2)
    have hRB : ∀ {w' : World}, St [] w w' [] → Rd w' (some ⟨x1, off1, none⟩) (flat encRm ss) := fun {w'} hs => by
      have := hR2.rd.below hs
      rwa [hB] at this
    have hxy : ss[i].x = rs[i].x := by
      have h1 : (rs.map Rm.x)[i]? = (ss.map Rm.x)[i]? := by rw [hm]
      rw [List.getElem?_map, List.getElem?_map, List.getElem?_eq_getElem hlt, List.getElem?_eq_getElem hlt2] at h1
      simpa using h1.symm
    have hz := hf _ (List.getElem_mem hlt)
    have hz1 := hz.l
    have hz2 := hz.v
    have hth := their18T_c rs[i].x rs[i].h rs[i].ms (by omega)
    have hsm := fun (h1 : Hd) (w' : World) (p : MemR w' (rs[i]'hlt).x h1 (rs[i]'hlt).ms) (q : MemR w' (ss[i]'hlt2).x (ss[i]'hlt2).h (ss[i]'hlt2).ms) => rSame18_c (rs[i]'hlt).x (ss[i]'hlt2).x h1 (ss[i]'hlt2).h (rs[i]'hlt).ms (ss[i]'hlt2).ms w' p q (by omega) (fun s hs => by have := hz.el s hs; omega) (by omega)
    have hself : sameR rs[i].x ss[i].x = true := by rw [hxy]; exact sameR_self _
    rw [hself] at hsm
    have hmx := hR.el _ (List.getElem_mem hlt)
    have hmy := hR2.el _ (List.getElem_mem hlt2)
    repeat ((conv => whnf); first | (apply q_i; focus (intro w1 hS; (conv => whnf); first | exact ⟨rfl, rfl⟩)) | (refine nw_f hS ?_; intro b w1 hS) | refine as_i hS ?_ | refine as_i (hS.subs (List.nil_sublist _) sb9) ?_ | refine as_i (hS.subs (List.Sublist.refl _) sb9) ?_ | refine bar_f hS ?_ | refine br_t (by assumption) ?_ | refine br_f (by assumption) ?_)
    refine drawf TB_ok rfl (by kernel_rfl) (by kernel_rfl) hS (List.nil_sublist _) (List.Sublist.refl _) ?_; intro w3 hS
    repeat' ((conv => whnf); first | refine And.intro ?_ ?_ | (apply q_i; focus (intro w1 hS; (conv => whnf); first | exact ⟨rfl, rfl⟩ | ((refine .mk ⟨by omega, by omega⟩ ?_; refine ix_i hA ?_); (conv => whnf); exact ⟨rfl, rfl⟩) | ((refine .mk ⟨by omega, by omega⟩ ?_; refine ix_i hB ?_); (conv => whnf); exact ⟨rfl, rfl⟩) | ((refine ld_rec (hRA hS.nil) (i := i) hlt rfl rfl ?_); (conv => whnf); exact ⟨rfl, rfl⟩) | ((refine ld_rec (hRB hS.nil) (i := i) hlt2 rfl rfl ?_); (conv => whnf); exact ⟨rfl, rfl⟩))) | (refine nw_f hS ?_; intro b w1 hS) | refine as_i hS ?_ | refine as_i (hS.subs (List.nil_sublist _) sb9) ?_ | refine as_i (hS.subs (List.Sublist.refl _) sb9) ?_ | refine bar_f hS ?_ | (refine .mk ⟨by omega, by omega⟩ ?_; refine ix_i hA ?_) | (refine .mk ⟨by omega, by omega⟩ ?_; refine ix_i hB ?_) | refine ld_rec (hRA hS.nil) (i := i) hlt rfl rfl ?_ | refine ld_rec (hRB hS.nil) (i := i) hlt2 rfl rfl ?_ | (refine fc_m (hth _ (hmx.below hS.nil)) ?_; rintro v w7 ⟨A7, c7, Lv7, rfl, hv7, hS'⟩; replace hS := hS.callF hS') | (refine fc_m (hsm _ _ (ThR.mem (by assumption) hmx hS (fun z hz => by simp [hz])) (hmy.below hS.nil)) ?_; rintro v w3 ⟨rfl, hS'⟩; replace hS := hS.call0 hS') | (refine dr9 hS ?_; intro w1 hS) | refine br_t (by assumption) ?_ | refine br_f (by assumption) ?_)
    all_goals first
      | exact rfl
      | (refine ⟨i + 1, ?_, ⟨by omega, hS.subs (List.nil_sublist _) (List.Sublist.refl _)⟩, by omega⟩
         rw [wi hlt (by omega)]
         rfl)
  · repeat ((conv => whnf); first | (apply q_i; focus (intro w1 hS; (conv => whnf); first | exact ⟨rfl, rfl⟩)) | (refine nw_f hS ?_; intro b w1 hS) | refine as_i hS ?_ | refine as_i (hS.subs (List.nil_sublist _) sb9) ?_ | refine as_i (hS.subs (List.Sublist.refl _) sb9) ?_ | refine bar_f hS ?_ | (refine dr9 hS ?_; intro w1 hS) | refine br_t (by assumption) ?_ | refine br_f (by assumption) ?_)
    exact ⟨rfl, hS.nil⟩
set_option maxHeartbeats 8000000 in
theorem recordTakes_c (s : List UInt8) (w : World) :
    Fc Tryz.prog 3 [.string (strY s)] w fun v w' => v = .bool true ∧ St [] w w' [] := by
  have hsz := strY_size s
  refine fc_i TB_ok Tryz.func3 rfl (by kernel_rfl) ?_
  have hS := Sf.refl w
  by_cases hs : 3000 < s.length
  · have g1 : decide ((3000 : Int) < ((strY s).size : Int)) = true := decide_eq_true (by omega)
    repeat ((conv => whnf); first | (apply q_i; focus (intro w1 hS; (conv => whnf); first | exact ⟨rfl, rfl⟩)) | (refine nw_f hS ?_; intro b w1 hS) | refine as_i hS ?_ | refine as_i (hS.subs (List.nil_sublist _) sb9) ?_ | refine as_i (hS.subs (List.Sublist.refl _) sb9) ?_ | refine bar_f hS ?_ | (refine fc_m (works18_c _) ?_; rintro v w3 ⟨rfl, hS'⟩; replace hS := hS.call0 hS') | (refine dr9 hS ?_; intro w1 hS) | refine br_t (by assumption) ?_ | refine br_f (by assumption) ?_)
    exact ⟨rfl, hS.nil⟩
  have g1 : decide ((3000 : Int) < ((strY s).size : Int)) = false := decide_eq_false (by omega)
  repeat ((conv => whnf); first | (apply q_i; focus (intro w1 hS; (conv => whnf); first | exact ⟨rfl, rfl⟩)) | (refine nw_f hS ?_; intro b w1 hS) | refine as_i hS ?_ | refine as_i (hS.subs (List.nil_sublist _) sb9) ?_ | refine as_i (hS.subs (List.Sublist.refl _) sb9) ?_ | refine bar_f hS ?_ | (refine dr9 hS ?_; intro w1 hS) | refine br_t (by assumption) ?_ | refine br_f (by assumption) ?_)
  refine fc_m (take18_c s (by omega) _) ?_
  rintro v w1 ⟨A, c, rs, Lv, rfl, hrs, hK, hS'⟩
  replace hS := hS.callF hS'
  repeat ((conv => whnf); first | (apply q_i; focus (intro w1 hS; (conv => whnf); first | exact ⟨rfl, rfl⟩)) | (refine nw_f hS ?_; intro b w1 hS) | refine as_i hS ?_ | refine as_i (hS.subs (List.nil_sublist _) sb9) ?_ | refine as_i (hS.subs (List.Sublist.refl _) sb9) ?_ | refine bar_f hS ?_ | (refine dr9 hS ?_; intro w1 hS) | refine br_t (by assumption) ?_ | refine br_f (by assumption) ?_)
  refine fc_m (rTake18_c s (by omega) _) ?_
  rintro v w2 ⟨B, d, ss, Lw, rfl, hss, hK2, hS'⟩
  replace hS := hS.callF hS'
  have hf : ∀ r ∈ rs, fewR r.x := fun r hr => (takeR_ok s r.x (by rw [hrs]; exact List.mem_map_of_mem hr)).2.1
  have hln := recs_len hrs
  have hsame := fun w' p q => same18_c A B c d rs ss (hrs.symm.trans hss) hf (by omega) w' p q
  have hR1 : ∀ {w' : World} {L : LM}, Sf [] w w' (Lw ++ (Lv ++ [])) L → RdR w' A rs := fun h => hK _ (h.st.holds (Ls := Lv) (fun y hy => by simp [hy]))
  have hR2 : ∀ {w' : World} {L : LM}, Sf [] w w' (Lw ++ (Lv ++ [])) L → RdR w' B ss := fun h => hK2 _ (h.st.holds (Ls := Lw) (fun y hy => by simp [hy]))
  have g2 : ((takeR s).2 == (takeR s).2) = true := by simp
  generalize (takeR s).2 = e at *
  repeat ((conv => whnf); first | (apply q_i; focus (intro w1 hS; (conv => whnf); first | exact ⟨rfl, rfl⟩)) | (refine nw_f hS ?_; intro b w1 hS) | refine as_i hS ?_ | refine as_i (hS.subs (List.nil_sublist _) sb9) ?_ | refine as_i (hS.subs (List.Sublist.refl _) sb9) ?_ | refine bar_f hS ?_ | (refine fc_m (hsame _ (hR1 hS) (hR2 hS)) ?_; rintro v w3 ⟨rfl, hS'⟩; replace hS := hS.call0 hS') | (refine fc_m (works18_c _) ?_; rintro v w3 ⟨rfl, hS'⟩; replace hS := hS.call0 hS') | (refine dr9 hS ?_; intro w1 hS) | refine br_t (by assumption) ?_ | refine br_f (by assumption) ?_)
  exact ⟨rfl, hS.nil⟩
end Go.RV

set_option linter.unusedVariables false
set_option maxRecDepth 20000
namespace Go.RV
open Go Go.Proofs Go.ChangeShapes Go.WideShapes Go.RowKit
theorem strY_dr (s : ByteArray) : strY s.data.toList = s := by cases s; simp [strY]
instance : Inhabited Sm := ⟨⟨⟨0, 0, zeroVa⟩, none, 0⟩⟩
section
variable {W w : World} {r : Reach} {b0 : Nat} {v : Value}
theorem open_strr (h : Value.okWide Tryz.prog w r b0 9 v) : ∃ s : List UInt8, v = .string (strY s) ∧ (s.length : Int) ≤ 9223372036854775807 := by
  simp only [Value.okWide, Tryz.underlying9] at h
  obtain ⟨s, rfl, hn⟩ := cell_string Tryz.underlying9 h
  have hm : IntKind.i64.max = 9223372036854775807 := by decide
  refine ⟨s.data.toList, by rw [strY_dr], ?_⟩
  rw [hm] at hn
  simpa using hn
variable {H : Type} {en : TypeId × Value → H} {base : Nat} {spare : Nat → Bool} {held : Bool} {d : DataW H} {ps : List MemPlace}
end
end Go.RV

