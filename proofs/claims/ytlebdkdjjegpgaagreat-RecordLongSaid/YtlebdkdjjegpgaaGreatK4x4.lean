/- Texts of mine, packed for a claim (bundle.py). Conditions: none. -/
import Derived.Test.YtlebdkdjjegpgaaGreatK4x3
set_option maxRecDepth 20000
set_option linter.unusedVariables false
set_option linter.unusedSimpArgs false
namespace Go.RV
open Go Go.Proofs Go.RowKit

theorem kinds (k : Int) : k = 1 ∨ k = 2 ∨ k = 3 ∨ k = 4 ∨ k = 5 ∨ k = 6 ∨ k = 7 ∨ k = 8 ∨ (k ≠ 1 ∧ k ≠ 2 ∧ k ≠ 3 ∧ k ≠ 4 ∧ k ≠ 5 ∧ k ≠ 6 ∧ k ≠ 7 ∧ k ≠ 8) := by omega
theorem mayR9 {x : Rx} (hk : x.k ≠ 1 ∧ x.k ≠ 2 ∧ x.k ≠ 3 ∧ x.k ≠ 4 ∧ x.k ≠ 5 ∧ x.k ≠ 6 ∧ x.k ≠ 7 ∧ x.k ≠ 8) : mayR x = false := by
  unfold mayR
  rw [if_neg (by omega), if_neg (by omega), if_neg (by omega), if_neg (by omega), if_neg (by omega), if_neg (by omega), if_neg (by omega), if_neg (by omega)]
theorem if4 (b : Bool) : ((if b = true then (0 : Int) else 4) == 0) = b := by cases b <;> rfl
set_option maxHeartbeats 4000000 in
theorem rmay18_c (x : Rx) (ho : okR x) (h : Hd) (ms : List Sm) (w : World) (hx : MemR w x h ms) (hp : x.p.length ≤ 1000) (hl : x.xs.length ≤ 1073741824) (he : ∀ s ∈ x.xs, s.v.ks.length ≤ 1073741824) (hv : x.v.ks.length ≤ 1073741824) :
    Fc Tryz.prog 40 [recV x h] w fun v w' => v = .bool (mayR x) ∧ St [] w w' [] := by
  have hreg : ∀ w', RdM w' h.A ms → Fc Tryz.prog 74 [regV x.f h.A x.xs.length h.c] w' fun v w'' => v = .bool (regB x.f x.xs) ∧ St [] w' w'' [] := fun w' p => by
    have := register_c x.f ho.f h.A h.c ms w' p (by rw [← hx.len]; omega) (fun m hm => by
      have hm' : m.s ∈ x.xs := by rw [hx.eq]; exact List.mem_map_of_mem hm
      exact ⟨ho.xs _ hm', by have := he _ hm'; omega⟩)
    rwa [← hx.eq, ← hx.len] at this
  rcases kinds x.k with hk | hk | hk | hk | hk | hk | hk | hk | hk
  · have hm : mayR x = decide (x.r < 8) := by
      unfold mayR
      rw [if_pos hk]
    rw [hm]
    clear hm
    have g1 : (x.k == 1) = true := by rw [hk]; rfl
    have g2 : (x.k == 2) = false := by rw [hk]; rfl
    have g3 : (x.k == 3) = false := by rw [hk]; rfl
    have g4 : (x.k == 4) = false := by rw [hk]; rfl
    have g5 : (x.k == 5) = false := by rw [hk]; rfl
    have g6 : (x.k == 6) = false := by rw [hk]; rfl
    have g7 : (x.k == 7) = false := by rw [hk]; rfl
    have g8 : (x.k == 8) = false := by rw [hk]; rfl
    refine fc_i TB_ok Tryz.func40 rfl (by kernel_rfl) ?_
    have hS := Sf.refl w
    repeat' ((conv => whnf); first | refine And.intro ?_ ?_ | (apply q_i; focus (intro w1 hS; (conv => whnf); first | exact ⟨rfl, rfl⟩ | ((refine ld_f hS 0 rfl rfl ?_); (conv => whnf); exact ⟨rfl, rfl⟩) | ((refine ldA_f hS 0 rfl rfl ?_); (conv => whnf); exact ⟨rfl, rfl⟩) | ((refine ldN_f hS 0 rfl (lb9 rfl) ?_); (conv => whnf); exact ⟨rfl, rfl⟩) | ((refine fc_m (put_c x.g ho.g _) ?_; rintro v w3 ⟨rfl, hS'⟩; replace hS := hS.call0 hS'); (conv => whnf); exact ⟨rfl, rfl⟩) | ((refine fc_m (nm_c x.p hp _) ?_; rintro v w3 ⟨rfl, hS'⟩; replace hS := hS.call0 hS'); (conv => whnf); exact ⟨rfl, rfl⟩) | ((refine fc_m (hreg _ (hx.l.below hS.nil)) ?_; rintro v w3 ⟨rfl, hS'⟩; replace hS := hS.call0 hS'); (conv => whnf); exact ⟨rfl, rfl⟩) | ((refine fc_m (version_c x.vi x.vt x.vc ho.vc x.v ho.v h.B h.e _ (hx.v.below hS.nil) (by omega)) ?_; rintro v w3 ⟨rfl, hS'⟩; replace hS := hS.call0 hS'); (conv => whnf); exact ⟨rfl, rfl⟩) | ((refine fc_m (chunk_c x.ci x.cb x.cr x.cs _) ?_; rintro v w3 ⟨rfl, hS'⟩; replace hS := hS.call0 hS'); (conv => whnf); exact ⟨rfl, rfl⟩) | ((refine fc_m (within_c x.rq 0 1073741824 _) ?_; rintro v w3 ⟨rfl, hS'⟩; replace hS := hS.call0 hS'); (conv => whnf); exact ⟨rfl, rfl⟩) | ((refine .mk ⟨by omega, by omega⟩ ?_); (conv => whnf); exact ⟨rfl, rfl⟩) | ((refine br_t (by assumption) ?_); (conv => whnf); exact ⟨rfl, rfl⟩) | ((refine br_f (by assumption) ?_); (conv => whnf); exact ⟨rfl, rfl⟩) | ((refine br_i (fun _ => ?_) (fun _ => ?_)); (conv => whnf); exact ⟨rfl, rfl⟩))) | (refine nw_f hS ?_; intro b w1 hS) | refine as_i hS ?_ | refine as_i (hS.subs (List.nil_sublist _) sb9) ?_ | refine as_i (hS.subs (List.Sublist.refl _) sb9) ?_ | refine bar_f hS ?_ | refine ld_f hS 0 rfl rfl ?_ | refine ldA_f hS 0 rfl rfl ?_ | (refine stN_f hS 0 rfl (lb9 rfl) rfl rfl ?_; (conv => whnf); intro w1 hS) | (refine stM_f hS 0 rfl (lb9 rfl) rfl ?_; (conv => whnf); intro w1 hS) | refine ldN_f hS 0 rfl (lb9 rfl) ?_ | (refine fc_m (put_c x.g ho.g _) ?_; rintro v w3 ⟨rfl, hS'⟩; replace hS := hS.call0 hS') | (refine fc_m (nm_c x.p hp _) ?_; rintro v w3 ⟨rfl, hS'⟩; replace hS := hS.call0 hS') | (refine fc_m (hreg _ (hx.l.below hS.nil)) ?_; rintro v w3 ⟨rfl, hS'⟩; replace hS := hS.call0 hS') | (refine fc_m (version_c x.vi x.vt x.vc ho.vc x.v ho.v h.B h.e _ (hx.v.below hS.nil) (by omega)) ?_; rintro v w3 ⟨rfl, hS'⟩; replace hS := hS.call0 hS') | (refine fc_m (chunk_c x.ci x.cb x.cr x.cs _) ?_; rintro v w3 ⟨rfl, hS'⟩; replace hS := hS.call0 hS') | (refine fc_m (within_c x.rq 0 1073741824 _) ?_; rintro v w3 ⟨rfl, hS'⟩; replace hS := hS.call0 hS') | refine .mk ⟨by omega, by omega⟩ ?_ | refine br_t (by assumption) ?_ | refine br_f (by assumption) ?_ | (refine br_i (fun _ => ?_) (fun _ => ?_)) | (refine drawf TB_ok rfl (by kernel_rfl) (by kernel_rfl) hS (List.Sublist.refl _) (List.Sublist.refl _) ?_; intro w1 hS) | refine br_t (by assumption) ?_ | refine br_f (by assumption) ?_)
    all_goals first
      | exact hS.nil
      | rfl
      | (simp only [*]; rfl)
      | (refine congrArg Value.bool ?_; simp only [*, Bool.not_true, Bool.not_false, Bool.and_true, Bool.true_and, Bool.false_and, Bool.and_false])
  · have hm : mayR x = (decide (x.n0 ≤ 1073741824) && (decide (0 < x.n1) && decide (0 < x.n2))) := by
      unfold mayR
      rw [if_neg (by omega), if_pos hk]
    rw [hm]
    clear hm
    have g1 : (x.k == 1) = false := by rw [hk]; rfl
    have g2 : (x.k == 2) = true := by rw [hk]; rfl
    have g3 : (x.k == 3) = false := by rw [hk]; rfl
    have g4 : (x.k == 4) = false := by rw [hk]; rfl
    have g5 : (x.k == 5) = false := by rw [hk]; rfl
    have g6 : (x.k == 6) = false := by rw [hk]; rfl
    have g7 : (x.k == 7) = false := by rw [hk]; rfl
    have g8 : (x.k == 8) = false := by rw [hk]; rfl
    refine fc_i TB_ok Tryz.func40 rfl (by kernel_rfl) ?_
    have hS := Sf.refl w
    repeat' ((conv => whnf); first | refine And.intro ?_ ?_ | (apply q_i; focus (intro w1 hS; (conv => whnf); first | exact ⟨rfl, rfl⟩ | ((refine ld_f hS 0 rfl rfl ?_); (conv => whnf); exact ⟨rfl, rfl⟩) | ((refine ldA_f hS 0 rfl rfl ?_); (conv => whnf); exact ⟨rfl, rfl⟩) | ((refine ldN_f hS 0 rfl (lb9 rfl) ?_); (conv => whnf); exact ⟨rfl, rfl⟩) | ((refine fc_m (put_c x.g ho.g _) ?_; rintro v w3 ⟨rfl, hS'⟩; replace hS := hS.call0 hS'); (conv => whnf); exact ⟨rfl, rfl⟩) | ((refine fc_m (nm_c x.p hp _) ?_; rintro v w3 ⟨rfl, hS'⟩; replace hS := hS.call0 hS'); (conv => whnf); exact ⟨rfl, rfl⟩) | ((refine fc_m (hreg _ (hx.l.below hS.nil)) ?_; rintro v w3 ⟨rfl, hS'⟩; replace hS := hS.call0 hS'); (conv => whnf); exact ⟨rfl, rfl⟩) | ((refine fc_m (version_c x.vi x.vt x.vc ho.vc x.v ho.v h.B h.e _ (hx.v.below hS.nil) (by omega)) ?_; rintro v w3 ⟨rfl, hS'⟩; replace hS := hS.call0 hS'); (conv => whnf); exact ⟨rfl, rfl⟩) | ((refine fc_m (chunk_c x.ci x.cb x.cr x.cs _) ?_; rintro v w3 ⟨rfl, hS'⟩; replace hS := hS.call0 hS'); (conv => whnf); exact ⟨rfl, rfl⟩) | ((refine fc_m (within_c x.rq 0 1073741824 _) ?_; rintro v w3 ⟨rfl, hS'⟩; replace hS := hS.call0 hS'); (conv => whnf); exact ⟨rfl, rfl⟩) | ((refine .mk ⟨by omega, by omega⟩ ?_); (conv => whnf); exact ⟨rfl, rfl⟩) | ((refine br_t (by assumption) ?_); (conv => whnf); exact ⟨rfl, rfl⟩) | ((refine br_f (by assumption) ?_); (conv => whnf); exact ⟨rfl, rfl⟩) | ((refine br_i (fun _ => ?_) (fun _ => ?_)); (conv => whnf); exact ⟨rfl, rfl⟩))) | (refine nw_f hS ?_; intro b w1 hS) | refine as_i hS ?_ | refine as_i (hS.subs (List.nil_sublist _) sb9) ?_ | refine as_i (hS.subs (List.Sublist.refl _) sb9) ?_ | refine bar_f hS ?_ | refine ld_f hS 0 rfl rfl ?_ | refine ldA_f hS 0 rfl rfl ?_ | (refine stN_f hS 0 rfl (lb9 rfl) rfl rfl ?_; (conv => whnf); intro w1 hS) | (refine stM_f hS 0 rfl (lb9 rfl) rfl ?_; (conv => whnf); intro w1 hS) | refine ldN_f hS 0 rfl (lb9 rfl) ?_ | (refine fc_m (put_c x.g ho.g _) ?_; rintro v w3 ⟨rfl, hS'⟩; replace hS := hS.call0 hS') | (refine fc_m (nm_c x.p hp _) ?_; rintro v w3 ⟨rfl, hS'⟩; replace hS := hS.call0 hS') | (refine fc_m (hreg _ (hx.l.below hS.nil)) ?_; rintro v w3 ⟨rfl, hS'⟩; replace hS := hS.call0 hS') | (refine fc_m (version_c x.vi x.vt x.vc ho.vc x.v ho.v h.B h.e _ (hx.v.below hS.nil) (by omega)) ?_; rintro v w3 ⟨rfl, hS'⟩; replace hS := hS.call0 hS') | (refine fc_m (chunk_c x.ci x.cb x.cr x.cs _) ?_; rintro v w3 ⟨rfl, hS'⟩; replace hS := hS.call0 hS') | (refine fc_m (within_c x.rq 0 1073741824 _) ?_; rintro v w3 ⟨rfl, hS'⟩; replace hS := hS.call0 hS') | refine .mk ⟨by omega, by omega⟩ ?_ | refine br_t (by assumption) ?_ | refine br_f (by assumption) ?_ | (refine br_i (fun _ => ?_) (fun _ => ?_)) | (refine drawf TB_ok rfl (by kernel_rfl) (by kernel_rfl) hS (List.Sublist.refl _) (List.Sublist.refl _) ?_; intro w1 hS) | refine br_t (by assumption) ?_ | refine br_f (by assumption) ?_)
    all_goals first
      | exact hS.nil
      | rfl
      | (simp only [*]; rfl)
      | (refine congrArg Value.bool ?_; simp only [*, Bool.not_true, Bool.not_false, Bool.and_true, Bool.true_and, Bool.false_and, Bool.and_false])
  · have hm : mayR x = (decide (x.rk ≤ 1) && inB x.rq 0 1073741824) := by
      unfold mayR
      rw [if_neg (by omega), if_neg (by omega), if_pos hk]
    rw [hm]
    clear hm
    have g1 : (x.k == 1) = false := by rw [hk]; rfl
    have g2 : (x.k == 2) = false := by rw [hk]; rfl
    have g3 : (x.k == 3) = true := by rw [hk]; rfl
    have g4 : (x.k == 4) = false := by rw [hk]; rfl
    have g5 : (x.k == 5) = false := by rw [hk]; rfl
    have g6 : (x.k == 6) = false := by rw [hk]; rfl
    have g7 : (x.k == 7) = false := by rw [hk]; rfl
    have g8 : (x.k == 8) = false := by rw [hk]; rfl
    refine fc_i TB_ok Tryz.func40 rfl (by kernel_rfl) ?_
    have hS := Sf.refl w
    repeat' ((conv => whnf); first | refine And.intro ?_ ?_ | (apply q_i; focus (intro w1 hS; (conv => whnf); first | exact ⟨rfl, rfl⟩ | ((refine ld_f hS 0 rfl rfl ?_); (conv => whnf); exact ⟨rfl, rfl⟩) | ((refine ldA_f hS 0 rfl rfl ?_); (conv => whnf); exact ⟨rfl, rfl⟩) | ((refine ldN_f hS 0 rfl (lb9 rfl) ?_); (conv => whnf); exact ⟨rfl, rfl⟩) | ((refine fc_m (put_c x.g ho.g _) ?_; rintro v w3 ⟨rfl, hS'⟩; replace hS := hS.call0 hS'); (conv => whnf); exact ⟨rfl, rfl⟩) | ((refine fc_m (nm_c x.p hp _) ?_; rintro v w3 ⟨rfl, hS'⟩; replace hS := hS.call0 hS'); (conv => whnf); exact ⟨rfl, rfl⟩) | ((refine fc_m (hreg _ (hx.l.below hS.nil)) ?_; rintro v w3 ⟨rfl, hS'⟩; replace hS := hS.call0 hS'); (conv => whnf); exact ⟨rfl, rfl⟩) | ((refine fc_m (version_c x.vi x.vt x.vc ho.vc x.v ho.v h.B h.e _ (hx.v.below hS.nil) (by omega)) ?_; rintro v w3 ⟨rfl, hS'⟩; replace hS := hS.call0 hS'); (conv => whnf); exact ⟨rfl, rfl⟩) | ((refine fc_m (chunk_c x.ci x.cb x.cr x.cs _) ?_; rintro v w3 ⟨rfl, hS'⟩; replace hS := hS.call0 hS'); (conv => whnf); exact ⟨rfl, rfl⟩) | ((refine fc_m (within_c x.rq 0 1073741824 _) ?_; rintro v w3 ⟨rfl, hS'⟩; replace hS := hS.call0 hS'); (conv => whnf); exact ⟨rfl, rfl⟩) | ((refine .mk ⟨by omega, by omega⟩ ?_); (conv => whnf); exact ⟨rfl, rfl⟩) | ((refine br_t (by assumption) ?_); (conv => whnf); exact ⟨rfl, rfl⟩) | ((refine br_f (by assumption) ?_); (conv => whnf); exact ⟨rfl, rfl⟩) | ((refine br_i (fun _ => ?_) (fun _ => ?_)); (conv => whnf); exact ⟨rfl, rfl⟩))) | (refine nw_f hS ?_; intro b w1 hS) | refine as_i hS ?_ | refine as_i (hS.subs (List.nil_sublist _) sb9) ?_ | refine as_i (hS.subs (List.Sublist.refl _) sb9) ?_ | refine bar_f hS ?_ | refine ld_f hS 0 rfl rfl ?_ | refine ldA_f hS 0 rfl rfl ?_ | (refine stN_f hS 0 rfl (lb9 rfl) rfl rfl ?_; (conv => whnf); intro w1 hS) | (refine stM_f hS 0 rfl (lb9 rfl) rfl ?_; (conv => whnf); intro w1 hS) | refine ldN_f hS 0 rfl (lb9 rfl) ?_ | (refine fc_m (put_c x.g ho.g _) ?_; rintro v w3 ⟨rfl, hS'⟩; replace hS := hS.call0 hS') | (refine fc_m (nm_c x.p hp _) ?_; rintro v w3 ⟨rfl, hS'⟩; replace hS := hS.call0 hS') | (refine fc_m (hreg _ (hx.l.below hS.nil)) ?_; rintro v w3 ⟨rfl, hS'⟩; replace hS := hS.call0 hS') | (refine fc_m (version_c x.vi x.vt x.vc ho.vc x.v ho.v h.B h.e _ (hx.v.below hS.nil) (by omega)) ?_; rintro v w3 ⟨rfl, hS'⟩; replace hS := hS.call0 hS') | (refine fc_m (chunk_c x.ci x.cb x.cr x.cs _) ?_; rintro v w3 ⟨rfl, hS'⟩; replace hS := hS.call0 hS') | (refine fc_m (within_c x.rq 0 1073741824 _) ?_; rintro v w3 ⟨rfl, hS'⟩; replace hS := hS.call0 hS') | refine .mk ⟨by omega, by omega⟩ ?_ | refine br_t (by assumption) ?_ | refine br_f (by assumption) ?_ | (refine br_i (fun _ => ?_) (fun _ => ?_)) | (refine drawf TB_ok rfl (by kernel_rfl) (by kernel_rfl) hS (List.Sublist.refl _) (List.Sublist.refl _) ?_; intro w1 hS) | refine br_t (by assumption) ?_ | refine br_f (by assumption) ?_)
    all_goals first
      | exact hS.nil
      | rfl
      | (simp only [*]; rfl)
      | (refine congrArg Value.bool ?_; simp only [*, Bool.not_true, Bool.not_false, Bool.and_true, Bool.true_and, Bool.false_and, Bool.and_false])
  · have hm : mayR x = (namedB x.p && regB x.f x.xs) := by
      unfold mayR
      rw [if_neg (by omega), if_neg (by omega), if_neg (by omega), if_pos hk]
    rw [hm]
    clear hm
    have g1 : (x.k == 1) = false := by rw [hk]; rfl
    have g2 : (x.k == 2) = false := by rw [hk]; rfl
    have g3 : (x.k == 3) = false := by rw [hk]; rfl
    have g4 : (x.k == 4) = true := by rw [hk]; rfl
    have g5 : (x.k == 5) = false := by rw [hk]; rfl
    have g6 : (x.k == 6) = false := by rw [hk]; rfl
    have g7 : (x.k == 7) = false := by rw [hk]; rfl
    have g8 : (x.k == 8) = false := by rw [hk]; rfl
    refine fc_i TB_ok Tryz.func40 rfl (by kernel_rfl) ?_
    have hS := Sf.refl w
    repeat' ((conv => whnf); first | refine And.intro ?_ ?_ | (apply q_i; focus (intro w1 hS; (conv => whnf); first | exact ⟨rfl, rfl⟩ | ((refine ld_f hS 0 rfl rfl ?_); (conv => whnf); exact ⟨rfl, rfl⟩) | ((refine ldA_f hS 0 rfl rfl ?_); (conv => whnf); exact ⟨rfl, rfl⟩) | ((refine ldN_f hS 0 rfl (lb9 rfl) ?_); (conv => whnf); exact ⟨rfl, rfl⟩) | ((refine fc_m (put_c x.g ho.g _) ?_; rintro v w3 ⟨rfl, hS'⟩; replace hS := hS.call0 hS'); (conv => whnf); exact ⟨rfl, rfl⟩) | ((refine fc_m (nm_c x.p hp _) ?_; rintro v w3 ⟨rfl, hS'⟩; replace hS := hS.call0 hS'); (conv => whnf); exact ⟨rfl, rfl⟩) | ((refine fc_m (hreg _ (hx.l.below hS.nil)) ?_; rintro v w3 ⟨rfl, hS'⟩; replace hS := hS.call0 hS'); (conv => whnf); exact ⟨rfl, rfl⟩) | ((refine fc_m (version_c x.vi x.vt x.vc ho.vc x.v ho.v h.B h.e _ (hx.v.below hS.nil) (by omega)) ?_; rintro v w3 ⟨rfl, hS'⟩; replace hS := hS.call0 hS'); (conv => whnf); exact ⟨rfl, rfl⟩) | ((refine fc_m (chunk_c x.ci x.cb x.cr x.cs _) ?_; rintro v w3 ⟨rfl, hS'⟩; replace hS := hS.call0 hS'); (conv => whnf); exact ⟨rfl, rfl⟩) | ((refine fc_m (within_c x.rq 0 1073741824 _) ?_; rintro v w3 ⟨rfl, hS'⟩; replace hS := hS.call0 hS'); (conv => whnf); exact ⟨rfl, rfl⟩) | ((refine .mk ⟨by omega, by omega⟩ ?_); (conv => whnf); exact ⟨rfl, rfl⟩) | ((refine br_t (by assumption) ?_); (conv => whnf); exact ⟨rfl, rfl⟩) | ((refine br_f (by assumption) ?_); (conv => whnf); exact ⟨rfl, rfl⟩) | ((refine br_i (fun _ => ?_) (fun _ => ?_)); (conv => whnf); exact ⟨rfl, rfl⟩))) | (refine nw_f hS ?_; intro b w1 hS) | refine as_i hS ?_ | refine as_i (hS.subs (List.nil_sublist _) sb9) ?_ | refine as_i (hS.subs (List.Sublist.refl _) sb9) ?_ | refine bar_f hS ?_ | refine ld_f hS 0 rfl rfl ?_ | refine ldA_f hS 0 rfl rfl ?_ | (refine stN_f hS 0 rfl (lb9 rfl) rfl rfl ?_; (conv => whnf); intro w1 hS) | (refine stM_f hS 0 rfl (lb9 rfl) rfl ?_; (conv => whnf); intro w1 hS) | refine ldN_f hS 0 rfl (lb9 rfl) ?_ | (refine fc_m (put_c x.g ho.g _) ?_; rintro v w3 ⟨rfl, hS'⟩; replace hS := hS.call0 hS') | (refine fc_m (nm_c x.p hp _) ?_; rintro v w3 ⟨rfl, hS'⟩; replace hS := hS.call0 hS') | (refine fc_m (hreg _ (hx.l.below hS.nil)) ?_; rintro v w3 ⟨rfl, hS'⟩; replace hS := hS.call0 hS') | (refine fc_m (version_c x.vi x.vt x.vc ho.vc x.v ho.v h.B h.e _ (hx.v.below hS.nil) (by omega)) ?_; rintro v w3 ⟨rfl, hS'⟩; replace hS := hS.call0 hS') | (refine fc_m (chunk_c x.ci x.cb x.cr x.cs _) ?_; rintro v w3 ⟨rfl, hS'⟩; replace hS := hS.call0 hS') | (refine fc_m (within_c x.rq 0 1073741824 _) ?_; rintro v w3 ⟨rfl, hS'⟩; replace hS := hS.call0 hS') | refine .mk ⟨by omega, by omega⟩ ?_ | refine br_t (by assumption) ?_ | refine br_f (by assumption) ?_ | (refine br_i (fun _ => ?_) (fun _ => ?_)) | (refine drawf TB_ok rfl (by kernel_rfl) (by kernel_rfl) hS (List.Sublist.refl _) (List.Sublist.refl _) ?_; intro w1 hS) | refine br_t (by assumption) ?_ | refine br_f (by assumption) ?_)
    all_goals first
      | exact hS.nil
      | rfl
      | (simp only [*]; rfl)
      | (refine congrArg Value.bool ?_; simp only [*, Bool.not_true, Bool.not_false, Bool.and_true, Bool.true_and, Bool.false_and, Bool.and_false])
  · have hm : mayR x = (namedB x.p && verB x.vi x.vt x.vc x.v) := by
      unfold mayR
      rw [if_neg (by omega), if_neg (by omega), if_neg (by omega), if_neg (by omega), if_pos hk]
    rw [hm]
    clear hm
    have g1 : (x.k == 1) = false := by rw [hk]; rfl
    have g2 : (x.k == 2) = false := by rw [hk]; rfl
    have g3 : (x.k == 3) = false := by rw [hk]; rfl
    have g4 : (x.k == 4) = false := by rw [hk]; rfl
    have g5 : (x.k == 5) = true := by rw [hk]; rfl
    have g6 : (x.k == 6) = false := by rw [hk]; rfl
    have g7 : (x.k == 7) = false := by rw [hk]; rfl
    have g8 : (x.k == 8) = false := by rw [hk]; rfl
    refine fc_i TB_ok Tryz.func40 rfl (by kernel_rfl) ?_
    have hS := Sf.refl w
    repeat' ((conv => whnf); first | refine And.intro ?_ ?_ | (apply q_i; focus (intro w1 hS; (conv => whnf); first | exact ⟨rfl, rfl⟩ | ((refine ld_f hS 0 rfl rfl ?_); (conv => whnf); exact ⟨rfl, rfl⟩) | ((refine ldA_f hS 0 rfl rfl ?_); (conv => whnf); exact ⟨rfl, rfl⟩) | ((refine ldN_f hS 0 rfl (lb9 rfl) ?_); (conv => whnf); exact ⟨rfl, rfl⟩) | ((refine fc_m (put_c x.g ho.g _) ?_; rintro v w3 ⟨rfl, hS'⟩; replace hS := hS.call0 hS'); (conv => whnf); exact ⟨rfl, rfl⟩) | ((refine fc_m (nm_c x.p hp _) ?_; rintro v w3 ⟨rfl, hS'⟩; replace hS := hS.call0 hS'); (conv => whnf); exact ⟨rfl, rfl⟩) | ((refine fc_m (hreg _ (hx.l.below hS.nil)) ?_; rintro v w3 ⟨rfl, hS'⟩; replace hS := hS.call0 hS'); (conv => whnf); exact ⟨rfl, rfl⟩) | ((refine fc_m (version_c x.vi x.vt x.vc ho.vc x.v ho.v h.B h.e _ (hx.v.below hS.nil) (by omega)) ?_; rintro v w3 ⟨rfl, hS'⟩; replace hS := hS.call0 hS'); (conv => whnf); exact ⟨rfl, rfl⟩) | ((refine fc_m (chunk_c x.ci x.cb x.cr x.cs _) ?_; rintro v w3 ⟨rfl, hS'⟩; replace hS := hS.call0 hS'); (conv => whnf); exact ⟨rfl, rfl⟩) | ((refine fc_m (within_c x.rq 0 1073741824 _) ?_; rintro v w3 ⟨rfl, hS'⟩; replace hS := hS.call0 hS'); (conv => whnf); exact ⟨rfl, rfl⟩) | ((refine .mk ⟨by omega, by omega⟩ ?_); (conv => whnf); exact ⟨rfl, rfl⟩) | ((refine br_t (by assumption) ?_); (conv => whnf); exact ⟨rfl, rfl⟩) | ((refine br_f (by assumption) ?_); (conv => whnf); exact ⟨rfl, rfl⟩) | ((refine br_i (fun _ => ?_) (fun _ => ?_)); (conv => whnf); exact ⟨rfl, rfl⟩))) | (refine nw_f hS ?_; intro b w1 hS) | refine as_i hS ?_ | refine as_i (hS.subs (List.nil_sublist _) sb9) ?_ | refine as_i (hS.subs (List.Sublist.refl _) sb9) ?_ | refine bar_f hS ?_ | refine ld_f hS 0 rfl rfl ?_ | refine ldA_f hS 0 rfl rfl ?_ | (refine stN_f hS 0 rfl (lb9 rfl) rfl rfl ?_; (conv => whnf); intro w1 hS) | (refine stM_f hS 0 rfl (lb9 rfl) rfl ?_; (conv => whnf); intro w1 hS) | refine ldN_f hS 0 rfl (lb9 rfl) ?_ | (refine fc_m (put_c x.g ho.g _) ?_; rintro v w3 ⟨rfl, hS'⟩; replace hS := hS.call0 hS') | (refine fc_m (nm_c x.p hp _) ?_; rintro v w3 ⟨rfl, hS'⟩; replace hS := hS.call0 hS') | (refine fc_m (hreg _ (hx.l.below hS.nil)) ?_; rintro v w3 ⟨rfl, hS'⟩; replace hS := hS.call0 hS') | (refine fc_m (version_c x.vi x.vt x.vc ho.vc x.v ho.v h.B h.e _ (hx.v.below hS.nil) (by omega)) ?_; rintro v w3 ⟨rfl, hS'⟩; replace hS := hS.call0 hS') | (refine fc_m (chunk_c x.ci x.cb x.cr x.cs _) ?_; rintro v w3 ⟨rfl, hS'⟩; replace hS := hS.call0 hS') | (refine fc_m (within_c x.rq 0 1073741824 _) ?_; rintro v w3 ⟨rfl, hS'⟩; replace hS := hS.call0 hS') | refine .mk ⟨by omega, by omega⟩ ?_ | refine br_t (by assumption) ?_ | refine br_f (by assumption) ?_ | (refine br_i (fun _ => ?_) (fun _ => ?_)) | (refine drawf TB_ok rfl (by kernel_rfl) (by kernel_rfl) hS (List.Sublist.refl _) (List.Sublist.refl _) ?_; intro w1 hS) | refine br_t (by assumption) ?_ | refine br_f (by assumption) ?_)
    all_goals first
      | exact hS.nil
      | rfl
      | (simp only [*]; rfl)
      | (refine congrArg Value.bool ?_; simp only [*, Bool.not_true, Bool.not_false, Bool.and_true, Bool.true_and, Bool.false_and, Bool.and_false])
  · have hm : mayR x = decide (0 < x.vi) := by
      unfold mayR
      rw [if_neg (by omega), if_neg (by omega), if_neg (by omega), if_neg (by omega), if_neg (by omega), if_pos hk]
    rw [hm]
    clear hm
    have g1 : (x.k == 1) = false := by rw [hk]; rfl
    have g2 : (x.k == 2) = false := by rw [hk]; rfl
    have g3 : (x.k == 3) = false := by rw [hk]; rfl
    have g4 : (x.k == 4) = false := by rw [hk]; rfl
    have g5 : (x.k == 5) = false := by rw [hk]; rfl
    have g6 : (x.k == 6) = true := by rw [hk]; rfl
    have g7 : (x.k == 7) = false := by rw [hk]; rfl
    have g8 : (x.k == 8) = false := by rw [hk]; rfl
    refine fc_i TB_ok Tryz.func40 rfl (by kernel_rfl) ?_
    have hS := Sf.refl w
    repeat' ((conv => whnf); first | refine And.intro ?_ ?_ | (apply q_i; focus (intro w1 hS; (conv => whnf); first | exact ⟨rfl, rfl⟩ | ((refine ld_f hS 0 rfl rfl ?_); (conv => whnf); exact ⟨rfl, rfl⟩) | ((refine ldA_f hS 0 rfl rfl ?_); (conv => whnf); exact ⟨rfl, rfl⟩) | ((refine ldN_f hS 0 rfl (lb9 rfl) ?_); (conv => whnf); exact ⟨rfl, rfl⟩) | ((refine fc_m (put_c x.g ho.g _) ?_; rintro v w3 ⟨rfl, hS'⟩; replace hS := hS.call0 hS'); (conv => whnf); exact ⟨rfl, rfl⟩) | ((refine fc_m (nm_c x.p hp _) ?_; rintro v w3 ⟨rfl, hS'⟩; replace hS := hS.call0 hS'); (conv => whnf); exact ⟨rfl, rfl⟩) | ((refine fc_m (hreg _ (hx.l.below hS.nil)) ?_; rintro v w3 ⟨rfl, hS'⟩; replace hS := hS.call0 hS'); (conv => whnf); exact ⟨rfl, rfl⟩) | ((refine fc_m (version_c x.vi x.vt x.vc ho.vc x.v ho.v h.B h.e _ (hx.v.below hS.nil) (by omega)) ?_; rintro v w3 ⟨rfl, hS'⟩; replace hS := hS.call0 hS'); (conv => whnf); exact ⟨rfl, rfl⟩) | ((refine fc_m (chunk_c x.ci x.cb x.cr x.cs _) ?_; rintro v w3 ⟨rfl, hS'⟩; replace hS := hS.call0 hS'); (conv => whnf); exact ⟨rfl, rfl⟩) | ((refine fc_m (within_c x.rq 0 1073741824 _) ?_; rintro v w3 ⟨rfl, hS'⟩; replace hS := hS.call0 hS'); (conv => whnf); exact ⟨rfl, rfl⟩) | ((refine .mk ⟨by omega, by omega⟩ ?_); (conv => whnf); exact ⟨rfl, rfl⟩) | ((refine br_t (by assumption) ?_); (conv => whnf); exact ⟨rfl, rfl⟩) | ((refine br_f (by assumption) ?_); (conv => whnf); exact ⟨rfl, rfl⟩) | ((refine br_i (fun _ => ?_) (fun _ => ?_)); (conv => whnf); exact ⟨rfl, rfl⟩))) | (refine nw_f hS ?_; intro b w1 hS) | refine as_i hS ?_ | refine as_i (hS.subs (List.nil_sublist _) sb9) ?_ | refine as_i (hS.subs (List.Sublist.refl _) sb9) ?_ | refine bar_f hS ?_ | refine ld_f hS 0 rfl rfl ?_ | refine ldA_f hS 0 rfl rfl ?_ | (refine stN_f hS 0 rfl (lb9 rfl) rfl rfl ?_; (conv => whnf); intro w1 hS) | (refine stM_f hS 0 rfl (lb9 rfl) rfl ?_; (conv => whnf); intro w1 hS) | refine ldN_f hS 0 rfl (lb9 rfl) ?_ | (refine fc_m (put_c x.g ho.g _) ?_; rintro v w3 ⟨rfl, hS'⟩; replace hS := hS.call0 hS') | (refine fc_m (nm_c x.p hp _) ?_; rintro v w3 ⟨rfl, hS'⟩; replace hS := hS.call0 hS') | (refine fc_m (hreg _ (hx.l.below hS.nil)) ?_; rintro v w3 ⟨rfl, hS'⟩; replace hS := hS.call0 hS') | (refine fc_m (version_c x.vi x.vt x.vc ho.vc x.v ho.v h.B h.e _ (hx.v.below hS.nil) (by omega)) ?_; rintro v w3 ⟨rfl, hS'⟩; replace hS := hS.call0 hS') | (refine fc_m (chunk_c x.ci x.cb x.cr x.cs _) ?_; rintro v w3 ⟨rfl, hS'⟩; replace hS := hS.call0 hS') | (refine fc_m (within_c x.rq 0 1073741824 _) ?_; rintro v w3 ⟨rfl, hS'⟩; replace hS := hS.call0 hS') | refine .mk ⟨by omega, by omega⟩ ?_ | refine br_t (by assumption) ?_ | refine br_f (by assumption) ?_ | (refine br_i (fun _ => ?_) (fun _ => ?_)) | (refine drawf TB_ok rfl (by kernel_rfl) (by kernel_rfl) hS (List.Sublist.refl _) (List.Sublist.refl _) ?_; intro w1 hS) | refine br_t (by assumption) ?_ | refine br_f (by assumption) ?_)
    all_goals first
      | exact hS.nil
      | rfl
      | (simp only [*]; rfl)
      | (refine congrArg Value.bool ?_; simp only [*, Bool.not_true, Bool.not_false, Bool.and_true, Bool.true_and, Bool.false_and, Bool.and_false])
  · have hm : mayR x = chunkB x.ci x.cb x.cr x.cs := by
      unfold mayR
      rw [if_neg (by omega), if_neg (by omega), if_neg (by omega), if_neg (by omega), if_neg (by omega), if_neg (by omega), if_pos hk]
    rw [hm]
    clear hm
    have g1 : (x.k == 1) = false := by rw [hk]; rfl
    have g2 : (x.k == 2) = false := by rw [hk]; rfl
    have g3 : (x.k == 3) = false := by rw [hk]; rfl
    have g4 : (x.k == 4) = false := by rw [hk]; rfl
    have g5 : (x.k == 5) = false := by rw [hk]; rfl
    have g6 : (x.k == 6) = false := by rw [hk]; rfl
    have g7 : (x.k == 7) = true := by rw [hk]; rfl
    have g8 : (x.k == 8) = false := by rw [hk]; rfl
    refine fc_i TB_ok Tryz.func40 rfl (by kernel_rfl) ?_
    have hS := Sf.refl w
    repeat' ((conv => whnf); first | refine And.intro ?_ ?_ | (apply q_i; focus (intro w1 hS; (conv => whnf); first | exact ⟨rfl, rfl⟩ | ((refine ld_f hS 0 rfl rfl ?_); (conv => whnf); exact ⟨rfl, rfl⟩) | ((refine ldA_f hS 0 rfl rfl ?_); (conv => whnf); exact ⟨rfl, rfl⟩) | ((refine ldN_f hS 0 rfl (lb9 rfl) ?_); (conv => whnf); exact ⟨rfl, rfl⟩) | ((refine fc_m (put_c x.g ho.g _) ?_; rintro v w3 ⟨rfl, hS'⟩; replace hS := hS.call0 hS'); (conv => whnf); exact ⟨rfl, rfl⟩) | ((refine fc_m (nm_c x.p hp _) ?_; rintro v w3 ⟨rfl, hS'⟩; replace hS := hS.call0 hS'); (conv => whnf); exact ⟨rfl, rfl⟩) | ((refine fc_m (hreg _ (hx.l.below hS.nil)) ?_; rintro v w3 ⟨rfl, hS'⟩; replace hS := hS.call0 hS'); (conv => whnf); exact ⟨rfl, rfl⟩) | ((refine fc_m (version_c x.vi x.vt x.vc ho.vc x.v ho.v h.B h.e _ (hx.v.below hS.nil) (by omega)) ?_; rintro v w3 ⟨rfl, hS'⟩; replace hS := hS.call0 hS'); (conv => whnf); exact ⟨rfl, rfl⟩) | ((refine fc_m (chunk_c x.ci x.cb x.cr x.cs _) ?_; rintro v w3 ⟨rfl, hS'⟩; replace hS := hS.call0 hS'); (conv => whnf); exact ⟨rfl, rfl⟩) | ((refine fc_m (within_c x.rq 0 1073741824 _) ?_; rintro v w3 ⟨rfl, hS'⟩; replace hS := hS.call0 hS'); (conv => whnf); exact ⟨rfl, rfl⟩) | ((refine .mk ⟨by omega, by omega⟩ ?_); (conv => whnf); exact ⟨rfl, rfl⟩) | ((refine br_t (by assumption) ?_); (conv => whnf); exact ⟨rfl, rfl⟩) | ((refine br_f (by assumption) ?_); (conv => whnf); exact ⟨rfl, rfl⟩) | ((refine br_i (fun _ => ?_) (fun _ => ?_)); (conv => whnf); exact ⟨rfl, rfl⟩))) | (refine nw_f hS ?_; intro b w1 hS) | refine as_i hS ?_ | refine as_i (hS.subs (List.nil_sublist _) sb9) ?_ | refine as_i (hS.subs (List.Sublist.refl _) sb9) ?_ | refine bar_f hS ?_ | refine ld_f hS 0 rfl rfl ?_ | refine ldA_f hS 0 rfl rfl ?_ | (refine stN_f hS 0 rfl (lb9 rfl) rfl rfl ?_; (conv => whnf); intro w1 hS) | (refine stM_f hS 0 rfl (lb9 rfl) rfl ?_; (conv => whnf); intro w1 hS) | refine ldN_f hS 0 rfl (lb9 rfl) ?_ | (refine fc_m (put_c x.g ho.g _) ?_; rintro v w3 ⟨rfl, hS'⟩; replace hS := hS.call0 hS') | (refine fc_m (nm_c x.p hp _) ?_; rintro v w3 ⟨rfl, hS'⟩; replace hS := hS.call0 hS') | (refine fc_m (hreg _ (hx.l.below hS.nil)) ?_; rintro v w3 ⟨rfl, hS'⟩; replace hS := hS.call0 hS') | (refine fc_m (version_c x.vi x.vt x.vc ho.vc x.v ho.v h.B h.e _ (hx.v.below hS.nil) (by omega)) ?_; rintro v w3 ⟨rfl, hS'⟩; replace hS := hS.call0 hS') | (refine fc_m (chunk_c x.ci x.cb x.cr x.cs _) ?_; rintro v w3 ⟨rfl, hS'⟩; replace hS := hS.call0 hS') | (refine fc_m (within_c x.rq 0 1073741824 _) ?_; rintro v w3 ⟨rfl, hS'⟩; replace hS := hS.call0 hS') | refine .mk ⟨by omega, by omega⟩ ?_ | refine br_t (by assumption) ?_ | refine br_f (by assumption) ?_ | (refine br_i (fun _ => ?_) (fun _ => ?_)) | (refine drawf TB_ok rfl (by kernel_rfl) (by kernel_rfl) hS (List.Sublist.refl _) (List.Sublist.refl _) ?_; intro w1 hS) | refine br_t (by assumption) ?_ | refine br_f (by assumption) ?_)
    all_goals first
      | exact hS.nil
      | rfl
      | (simp only [*]; rfl)
      | (refine congrArg Value.bool ?_; simp only [*, Bool.not_true, Bool.not_false, Bool.and_true, Bool.true_and, Bool.false_and, Bool.and_false])
  · have hm : mayR x = (decide (x.r < 8) && (namedB x.p && ((if mayVB x.g = true then (0 : Int) else 4) == 0))) := by
      unfold mayR
      rw [if_neg (by omega), if_neg (by omega), if_neg (by omega), if_neg (by omega), if_neg (by omega), if_neg (by omega), if_neg (by omega), if_pos hk]
      rw [if4]
    rw [hm]
    clear hm
    have g1 : (x.k == 1) = false := by rw [hk]; rfl
    have g2 : (x.k == 2) = false := by rw [hk]; rfl
    have g3 : (x.k == 3) = false := by rw [hk]; rfl
    have g4 : (x.k == 4) = false := by rw [hk]; rfl
    have g5 : (x.k == 5) = false := by rw [hk]; rfl
    have g6 : (x.k == 6) = false := by rw [hk]; rfl
    have g7 : (x.k == 7) = false := by rw [hk]; rfl
    have g8 : (x.k == 8) = true := by rw [hk]; rfl
    refine fc_i TB_ok Tryz.func40 rfl (by kernel_rfl) ?_
    have hS := Sf.refl w
    repeat' ((conv => whnf); first | refine And.intro ?_ ?_ | (apply q_i; focus (intro w1 hS; (conv => whnf); first | exact ⟨rfl, rfl⟩ | ((refine ld_f hS 0 rfl rfl ?_); (conv => whnf); exact ⟨rfl, rfl⟩) | ((refine ldA_f hS 0 rfl rfl ?_); (conv => whnf); exact ⟨rfl, rfl⟩) | ((refine ldN_f hS 0 rfl (lb9 rfl) ?_); (conv => whnf); exact ⟨rfl, rfl⟩) | ((refine fc_m (put_c x.g ho.g _) ?_; rintro v w3 ⟨rfl, hS'⟩; replace hS := hS.call0 hS'); (conv => whnf); exact ⟨rfl, rfl⟩) | ((refine fc_m (nm_c x.p hp _) ?_; rintro v w3 ⟨rfl, hS'⟩; replace hS := hS.call0 hS'); (conv => whnf); exact ⟨rfl, rfl⟩) | ((refine fc_m (hreg _ (hx.l.below hS.nil)) ?_; rintro v w3 ⟨rfl, hS'⟩; replace hS := hS.call0 hS'); (conv => whnf); exact ⟨rfl, rfl⟩) | ((refine fc_m (version_c x.vi x.vt x.vc ho.vc x.v ho.v h.B h.e _ (hx.v.below hS.nil) (by omega)) ?_; rintro v w3 ⟨rfl, hS'⟩; replace hS := hS.call0 hS'); (conv => whnf); exact ⟨rfl, rfl⟩) | ((refine fc_m (chunk_c x.ci x.cb x.cr x.cs _) ?_; rintro v w3 ⟨rfl, hS'⟩; replace hS := hS.call0 hS'); (conv => whnf); exact ⟨rfl, rfl⟩) | ((refine fc_m (within_c x.rq 0 1073741824 _) ?_; rintro v w3 ⟨rfl, hS'⟩; replace hS := hS.call0 hS'); (conv => whnf); exact ⟨rfl, rfl⟩) | ((refine .mk ⟨by omega, by omega⟩ ?_); (conv => whnf); exact ⟨rfl, rfl⟩) | ((refine br_t (by assumption) ?_); (conv => whnf); exact ⟨rfl, rfl⟩) | ((refine br_f (by assumption) ?_); (conv => whnf); exact ⟨rfl, rfl⟩) | ((refine br_i (fun _ => ?_) (fun _ => ?_)); (conv => whnf); exact ⟨rfl, rfl⟩))) | (refine nw_f hS ?_; intro b w1 hS) | refine as_i hS ?_ | refine as_i (hS.subs (List.nil_sublist _) sb9) ?_ | refine as_i (hS.subs (List.Sublist.refl _) sb9) ?_ | refine bar_f hS ?_ | refine ld_f hS 0 rfl rfl ?_ | refine ldA_f hS 0 rfl rfl ?_ | (refine stN_f hS 0 rfl (lb9 rfl) rfl rfl ?_; (conv => whnf); intro w1 hS) | (refine stM_f hS 0 rfl (lb9 rfl) rfl ?_; (conv => whnf); intro w1 hS) | refine ldN_f hS 0 rfl (lb9 rfl) ?_ | (refine fc_m (put_c x.g ho.g _) ?_; rintro v w3 ⟨rfl, hS'⟩; replace hS := hS.call0 hS') | (refine fc_m (nm_c x.p hp _) ?_; rintro v w3 ⟨rfl, hS'⟩; replace hS := hS.call0 hS') | (refine fc_m (hreg _ (hx.l.below hS.nil)) ?_; rintro v w3 ⟨rfl, hS'⟩; replace hS := hS.call0 hS') | (refine fc_m (version_c x.vi x.vt x.vc ho.vc x.v ho.v h.B h.e _ (hx.v.below hS.nil) (by omega)) ?_; rintro v w3 ⟨rfl, hS'⟩; replace hS := hS.call0 hS') | (refine fc_m (chunk_c x.ci x.cb x.cr x.cs _) ?_; rintro v w3 ⟨rfl, hS'⟩; replace hS := hS.call0 hS') | (refine fc_m (within_c x.rq 0 1073741824 _) ?_; rintro v w3 ⟨rfl, hS'⟩; replace hS := hS.call0 hS') | refine .mk ⟨by omega, by omega⟩ ?_ | refine br_t (by assumption) ?_ | refine br_f (by assumption) ?_ | (refine br_i (fun _ => ?_) (fun _ => ?_)) | (refine drawf TB_ok rfl (by kernel_rfl) (by kernel_rfl) hS (List.Sublist.refl _) (List.Sublist.refl _) ?_; intro w1 hS) | refine br_t (by assumption) ?_ | refine br_f (by assumption) ?_)
    all_goals first
      | exact hS.nil
      | rfl
      | (simp only [*]; rfl)
      | (refine congrArg Value.bool ?_; simp only [*, Bool.not_true, Bool.not_false, Bool.and_true, Bool.true_and, Bool.false_and, Bool.and_false])
  · have hm : mayR x = false := by
      unfold mayR
      rw [if_neg (by omega), if_neg (by omega), if_neg (by omega), if_neg (by omega), if_neg (by omega), if_neg (by omega), if_neg (by omega), if_neg (by omega)]
    rw [hm]
    clear hm
    have g1 : (x.k == 1) = false := by simp; omega
    have g2 : (x.k == 2) = false := by simp; omega
    have g3 : (x.k == 3) = false := by simp; omega
    have g4 : (x.k == 4) = false := by simp; omega
    have g5 : (x.k == 5) = false := by simp; omega
    have g6 : (x.k == 6) = false := by simp; omega
    have g7 : (x.k == 7) = false := by simp; omega
    have g8 : (x.k == 8) = false := by simp; omega
    refine fc_i TB_ok Tryz.func40 rfl (by kernel_rfl) ?_
    have hS := Sf.refl w
    repeat' ((conv => whnf); first | refine And.intro ?_ ?_ | (apply q_i; focus (intro w1 hS; (conv => whnf); first | exact ⟨rfl, rfl⟩ | ((refine ld_f hS 0 rfl rfl ?_); (conv => whnf); exact ⟨rfl, rfl⟩) | ((refine ldA_f hS 0 rfl rfl ?_); (conv => whnf); exact ⟨rfl, rfl⟩) | ((refine ldN_f hS 0 rfl (lb9 rfl) ?_); (conv => whnf); exact ⟨rfl, rfl⟩) | ((refine fc_m (put_c x.g ho.g _) ?_; rintro v w3 ⟨rfl, hS'⟩; replace hS := hS.call0 hS'); (conv => whnf); exact ⟨rfl, rfl⟩) | ((refine fc_m (nm_c x.p hp _) ?_; rintro v w3 ⟨rfl, hS'⟩; replace hS := hS.call0 hS'); (conv => whnf); exact ⟨rfl, rfl⟩) | ((refine fc_m (hreg _ (hx.l.below hS.nil)) ?_; rintro v w3 ⟨rfl, hS'⟩; replace hS := hS.call0 hS'); (conv => whnf); exact ⟨rfl, rfl⟩) | ((refine fc_m (version_c x.vi x.vt x.vc ho.vc x.v ho.v h.B h.e _ (hx.v.below hS.nil) (by omega)) ?_; rintro v w3 ⟨rfl, hS'⟩; replace hS := hS.call0 hS'); (conv => whnf); exact ⟨rfl, rfl⟩) | ((refine fc_m (chunk_c x.ci x.cb x.cr x.cs _) ?_; rintro v w3 ⟨rfl, hS'⟩; replace hS := hS.call0 hS'); (conv => whnf); exact ⟨rfl, rfl⟩) | ((refine fc_m (within_c x.rq 0 1073741824 _) ?_; rintro v w3 ⟨rfl, hS'⟩; replace hS := hS.call0 hS'); (conv => whnf); exact ⟨rfl, rfl⟩) | ((refine .mk ⟨by omega, by omega⟩ ?_); (conv => whnf); exact ⟨rfl, rfl⟩) | ((refine br_t (by assumption) ?_); (conv => whnf); exact ⟨rfl, rfl⟩) | ((refine br_f (by assumption) ?_); (conv => whnf); exact ⟨rfl, rfl⟩) | ((refine br_i (fun _ => ?_) (fun _ => ?_)); (conv => whnf); exact ⟨rfl, rfl⟩))) | (refine nw_f hS ?_; intro b w1 hS) | refine as_i hS ?_ | refine as_i (hS.subs (List.nil_sublist _) sb9) ?_ | refine as_i (hS.subs (List.Sublist.refl _) sb9) ?_ | refine bar_f hS ?_ | refine ld_f hS 0 rfl rfl ?_ | refine ldA_f hS 0 rfl rfl ?_ | (refine stN_f hS 0 rfl (lb9 rfl) rfl rfl ?_; (conv => whnf); intro w1 hS) | (refine stM_f hS 0 rfl (lb9 rfl) rfl ?_; (conv => whnf); intro w1 hS) | refine ldN_f hS 0 rfl (lb9 rfl) ?_ | (refine fc_m (put_c x.g ho.g _) ?_; rintro v w3 ⟨rfl, hS'⟩; replace hS := hS.call0 hS') | (refine fc_m (nm_c x.p hp _) ?_; rintro v w3 ⟨rfl, hS'⟩; replace hS := hS.call0 hS') | (refine fc_m (hreg _ (hx.l.below hS.nil)) ?_; rintro v w3 ⟨rfl, hS'⟩; replace hS := hS.call0 hS') | (refine fc_m (version_c x.vi x.vt x.vc ho.vc x.v ho.v h.B h.e _ (hx.v.below hS.nil) (by omega)) ?_; rintro v w3 ⟨rfl, hS'⟩; replace hS := hS.call0 hS') | (refine fc_m (chunk_c x.ci x.cb x.cr x.cs _) ?_; rintro v w3 ⟨rfl, hS'⟩; replace hS := hS.call0 hS') | (refine fc_m (within_c x.rq 0 1073741824 _) ?_; rintro v w3 ⟨rfl, hS'⟩; replace hS := hS.call0 hS') | refine .mk ⟨by omega, by omega⟩ ?_ | refine br_t (by assumption) ?_ | refine br_f (by assumption) ?_ | (refine br_i (fun _ => ?_) (fun _ => ?_)) | (refine drawf TB_ok rfl (by kernel_rfl) (by kernel_rfl) hS (List.Sublist.refl _) (List.Sublist.refl _) ?_; intro w1 hS) | refine br_t (by assumption) ?_ | refine br_f (by assumption) ?_)
    all_goals first
      | exact hS.nil
      | rfl
      | (simp only [*]; rfl)
      | (refine congrArg Value.bool ?_; simp only [*, Bool.not_true, Bool.not_false, Bool.and_true, Bool.true_and, Bool.false_and, Bool.and_false])
set_option maxHeartbeats 4000000 in
theorem need_c (x : Rx) (h : Hd) (w : World) : Fc Tryz.prog 41 [recV x h] w fun v w' => v = recV (needR x) (needH x h) ∧ St [] w w' [] := by
  rcases kinds x.k with hk | hk | hk | hk | hk | hk | hk | hk | hk
  · have hm : needR x = { zeroRx x.k with r := x.r } := by
      unfold needR
      rw [if_pos hk]
    have hh : needH x h = noHd := by
      unfold needH
      rw [if_neg (by omega), if_neg (by omega)]
    rw [hm, hh]
    clear hm hh
    have g1 : (x.k == 1) = true := by rw [hk]; rfl
    have g2 : (x.k == 2) = false := by rw [hk]; rfl
    have g3 : (x.k == 3) = false := by rw [hk]; rfl
    have g4 : (x.k == 4) = false := by rw [hk]; rfl
    have g5 : (x.k == 5) = false := by rw [hk]; rfl
    have g6 : (x.k == 6) = false := by rw [hk]; rfl
    have g7 : (x.k == 7) = false := by rw [hk]; rfl
    have g8 : (x.k == 8) = false := by rw [hk]; rfl
    refine fc_i TB_ok Tryz.func41 rfl (by kernel_rfl) ?_
    have hS := Sf.refl w
    repeat' ((conv => whnf); first | refine And.intro ?_ ?_ | (apply q_i; focus (intro w1 hS; (conv => whnf); first | exact ⟨rfl, rfl⟩ | ((refine ld_f hS 0 rfl rfl ?_); (conv => whnf); exact ⟨rfl, rfl⟩) | ((refine ld_f hS 1 rfl rfl ?_); (conv => whnf); exact ⟨rfl, rfl⟩) | ((refine ld_f hS 2 rfl rfl ?_); (conv => whnf); exact ⟨rfl, rfl⟩) | ((refine ldA_f hS 0 rfl rfl ?_); (conv => whnf); exact ⟨rfl, rfl⟩) | ((refine ldA_f hS 1 rfl rfl ?_); (conv => whnf); exact ⟨rfl, rfl⟩) | ((refine ldA_f hS 2 rfl rfl ?_); (conv => whnf); exact ⟨rfl, rfl⟩) | ((refine ldN_f hS 0 rfl (lb9 rfl) ?_); (conv => whnf); exact ⟨rfl, rfl⟩) | ((refine ldN_f hS 1 rfl (lb9 rfl) ?_); (conv => whnf); exact ⟨rfl, rfl⟩) | ((refine ldN_f hS 2 rfl (lb9 rfl) ?_); (conv => whnf); exact ⟨rfl, rfl⟩) | ((refine br_t (by assumption) ?_); (conv => whnf); exact ⟨rfl, rfl⟩) | ((refine br_f (by assumption) ?_); (conv => whnf); exact ⟨rfl, rfl⟩))) | (refine nw_f hS ?_; intro b w1 hS) | refine as_i hS ?_ | refine as_i (hS.subs (List.nil_sublist _) sb9) ?_ | refine as_i (hS.subs (List.Sublist.refl _) sb9) ?_ | refine bar_f hS ?_ | refine ld_f hS 0 rfl rfl ?_ | refine ld_f hS 1 rfl rfl ?_ | refine ld_f hS 2 rfl rfl ?_ | refine ldA_f hS 0 rfl rfl ?_ | refine ldA_f hS 1 rfl rfl ?_ | refine ldA_f hS 2 rfl rfl ?_ | (refine stN_f hS 0 rfl (lb9 rfl) rfl rfl ?_; (conv => whnf); intro w1 hS) | (refine stN_f hS 1 rfl (lb9 rfl) rfl rfl ?_; (conv => whnf); intro w1 hS) | (refine stN_f hS 2 rfl (lb9 rfl) rfl rfl ?_; (conv => whnf); intro w1 hS) | (refine stM_f hS 0 rfl (lb9 rfl) rfl ?_; (conv => whnf); intro w1 hS) | (refine stM_f hS 1 rfl (lb9 rfl) rfl ?_; (conv => whnf); intro w1 hS) | (refine stM_f hS 2 rfl (lb9 rfl) rfl ?_; (conv => whnf); intro w1 hS) | refine ldN_f hS 0 rfl (lb9 rfl) ?_ | refine ldN_f hS 1 rfl (lb9 rfl) ?_ | refine ldN_f hS 2 rfl (lb9 rfl) ?_ | refine br_t (by assumption) ?_ | refine br_f (by assumption) ?_ | (refine drawf TB_ok rfl (by kernel_rfl) (by kernel_rfl) hS (List.Sublist.refl _) (List.Sublist.refl _) ?_; intro w1 hS) | refine br_t (by assumption) ?_ | refine br_f (by assumption) ?_)
    all_goals first
      | exact hS.nil
      | rfl
  · have hm : needR x = { zeroRx x.k with n0 := x.n0, n1 := x.n1, n2 := x.n2 } := by
      unfold needR
      rw [if_neg (by omega), if_pos hk]
    have hh : needH x h = noHd := by
      unfold needH
      rw [if_neg (by omega), if_neg (by omega)]
    rw [hm, hh]
    clear hm hh
    have g1 : (x.k == 1) = false := by rw [hk]; rfl
    have g2 : (x.k == 2) = true := by rw [hk]; rfl
    have g3 : (x.k == 3) = false := by rw [hk]; rfl
    have g4 : (x.k == 4) = false := by rw [hk]; rfl
    have g5 : (x.k == 5) = false := by rw [hk]; rfl
    have g6 : (x.k == 6) = false := by rw [hk]; rfl
    have g7 : (x.k == 7) = false := by rw [hk]; rfl
    have g8 : (x.k == 8) = false := by rw [hk]; rfl
    refine fc_i TB_ok Tryz.func41 rfl (by kernel_rfl) ?_
    have hS := Sf.refl w
    repeat' ((conv => whnf); first | refine And.intro ?_ ?_ | (apply q_i; focus (intro w1 hS; (conv => whnf); first | exact ⟨rfl, rfl⟩ | ((refine ld_f hS 0 rfl rfl ?_); (conv => whnf); exact ⟨rfl, rfl⟩) | ((refine ld_f hS 1 rfl rfl ?_); (conv => whnf); exact ⟨rfl, rfl⟩) | ((refine ld_f hS 2 rfl rfl ?_); (conv => whnf); exact ⟨rfl, rfl⟩) | ((refine ldA_f hS 0 rfl rfl ?_); (conv => whnf); exact ⟨rfl, rfl⟩) | ((refine ldA_f hS 1 rfl rfl ?_); (conv => whnf); exact ⟨rfl, rfl⟩) | ((refine ldA_f hS 2 rfl rfl ?_); (conv => whnf); exact ⟨rfl, rfl⟩) | ((refine ldN_f hS 0 rfl (lb9 rfl) ?_); (conv => whnf); exact ⟨rfl, rfl⟩) | ((refine ldN_f hS 1 rfl (lb9 rfl) ?_); (conv => whnf); exact ⟨rfl, rfl⟩) | ((refine ldN_f hS 2 rfl (lb9 rfl) ?_); (conv => whnf); exact ⟨rfl, rfl⟩) | ((refine br_t (by assumption) ?_); (conv => whnf); exact ⟨rfl, rfl⟩) | ((refine br_f (by assumption) ?_); (conv => whnf); exact ⟨rfl, rfl⟩))) | (refine nw_f hS ?_; intro b w1 hS) | refine as_i hS ?_ | refine as_i (hS.subs (List.nil_sublist _) sb9) ?_ | refine as_i (hS.subs (List.Sublist.refl _) sb9) ?_ | refine bar_f hS ?_ | refine ld_f hS 0 rfl rfl ?_ | refine ld_f hS 1 rfl rfl ?_ | refine ld_f hS 2 rfl rfl ?_ | refine ldA_f hS 0 rfl rfl ?_ | refine ldA_f hS 1 rfl rfl ?_ | refine ldA_f hS 2 rfl rfl ?_ | (refine stN_f hS 0 rfl (lb9 rfl) rfl rfl ?_; (conv => whnf); intro w1 hS) | (refine stN_f hS 1 rfl (lb9 rfl) rfl rfl ?_; (conv => whnf); intro w1 hS) | (refine stN_f hS 2 rfl (lb9 rfl) rfl rfl ?_; (conv => whnf); intro w1 hS) | (refine stM_f hS 0 rfl (lb9 rfl) rfl ?_; (conv => whnf); intro w1 hS) | (refine stM_f hS 1 rfl (lb9 rfl) rfl ?_; (conv => whnf); intro w1 hS) | (refine stM_f hS 2 rfl (lb9 rfl) rfl ?_; (conv => whnf); intro w1 hS) | refine ldN_f hS 0 rfl (lb9 rfl) ?_ | refine ldN_f hS 1 rfl (lb9 rfl) ?_ | refine ldN_f hS 2 rfl (lb9 rfl) ?_ | refine br_t (by assumption) ?_ | refine br_f (by assumption) ?_ | (refine drawf TB_ok rfl (by kernel_rfl) (by kernel_rfl) hS (List.Sublist.refl _) (List.Sublist.refl _) ?_; intro w1 hS) | refine br_t (by assumption) ?_ | refine br_f (by assumption) ?_)
    all_goals first
      | exact hS.nil
      | rfl
  · have hm : needR x = { zeroRx x.k with rk := x.rk, ra := x.ra, rq := x.rq } := by
      unfold needR
      rw [if_neg (by omega), if_neg (by omega), if_pos hk]
    have hh : needH x h = noHd := by
      unfold needH
      rw [if_neg (by omega), if_neg (by omega)]
    rw [hm, hh]
    clear hm hh
    have g1 : (x.k == 1) = false := by rw [hk]; rfl
    have g2 : (x.k == 2) = false := by rw [hk]; rfl
    have g3 : (x.k == 3) = true := by rw [hk]; rfl
    have g4 : (x.k == 4) = false := by rw [hk]; rfl
    have g5 : (x.k == 5) = false := by rw [hk]; rfl
    have g6 : (x.k == 6) = false := by rw [hk]; rfl
    have g7 : (x.k == 7) = false := by rw [hk]; rfl
    have g8 : (x.k == 8) = false := by rw [hk]; rfl
    refine fc_i TB_ok Tryz.func41 rfl (by kernel_rfl) ?_
    have hS := Sf.refl w
    repeat' ((conv => whnf); first | refine And.intro ?_ ?_ | (apply q_i; focus (intro w1 hS; (conv => whnf); first | exact ⟨rfl, rfl⟩ | ((refine ld_f hS 0 rfl rfl ?_); (conv => whnf); exact ⟨rfl, rfl⟩) | ((refine ld_f hS 1 rfl rfl ?_); (conv => whnf); exact ⟨rfl, rfl⟩) | ((refine ld_f hS 2 rfl rfl ?_); (conv => whnf); exact ⟨rfl, rfl⟩) | ((refine ldA_f hS 0 rfl rfl ?_); (conv => whnf); exact ⟨rfl, rfl⟩) | ((refine ldA_f hS 1 rfl rfl ?_); (conv => whnf); exact ⟨rfl, rfl⟩) | ((refine ldA_f hS 2 rfl rfl ?_); (conv => whnf); exact ⟨rfl, rfl⟩) | ((refine ldN_f hS 0 rfl (lb9 rfl) ?_); (conv => whnf); exact ⟨rfl, rfl⟩) | ((refine ldN_f hS 1 rfl (lb9 rfl) ?_); (conv => whnf); exact ⟨rfl, rfl⟩) | ((refine ldN_f hS 2 rfl (lb9 rfl) ?_); (conv => whnf); exact ⟨rfl, rfl⟩) | ((refine br_t (by assumption) ?_); (conv => whnf); exact ⟨rfl, rfl⟩) | ((refine br_f (by assumption) ?_); (conv => whnf); exact ⟨rfl, rfl⟩))) | (refine nw_f hS ?_; intro b w1 hS) | refine as_i hS ?_ | refine as_i (hS.subs (List.nil_sublist _) sb9) ?_ | refine as_i (hS.subs (List.Sublist.refl _) sb9) ?_ | refine bar_f hS ?_ | refine ld_f hS 0 rfl rfl ?_ | refine ld_f hS 1 rfl rfl ?_ | refine ld_f hS 2 rfl rfl ?_ | refine ldA_f hS 0 rfl rfl ?_ | refine ldA_f hS 1 rfl rfl ?_ | refine ldA_f hS 2 rfl rfl ?_ | (refine stN_f hS 0 rfl (lb9 rfl) rfl rfl ?_; (conv => whnf); intro w1 hS) | (refine stN_f hS 1 rfl (lb9 rfl) rfl rfl ?_; (conv => whnf); intro w1 hS) | (refine stN_f hS 2 rfl (lb9 rfl) rfl rfl ?_; (conv => whnf); intro w1 hS) | (refine stM_f hS 0 rfl (lb9 rfl) rfl ?_; (conv => whnf); intro w1 hS) | (refine stM_f hS 1 rfl (lb9 rfl) rfl ?_; (conv => whnf); intro w1 hS) | (refine stM_f hS 2 rfl (lb9 rfl) rfl ?_; (conv => whnf); intro w1 hS) | refine ldN_f hS 0 rfl (lb9 rfl) ?_ | refine ldN_f hS 1 rfl (lb9 rfl) ?_ | refine ldN_f hS 2 rfl (lb9 rfl) ?_ | refine br_t (by assumption) ?_ | refine br_f (by assumption) ?_ | (refine drawf TB_ok rfl (by kernel_rfl) (by kernel_rfl) hS (List.Sublist.refl _) (List.Sublist.refl _) ?_; intro w1 hS) | refine br_t (by assumption) ?_ | refine br_f (by assumption) ?_)
    all_goals first
      | exact hS.nil
      | rfl
  · have hm : needR x = { zeroRx x.k with p := x.p, f := x.f, xs := x.xs } := by
      unfold needR
      rw [if_neg (by omega), if_neg (by omega), if_neg (by omega), if_pos hk]
    have hh : needH x h = ⟨h.A, h.c, none, 0⟩ := by
      unfold needH
      rw [if_pos hk]
    rw [hm, hh]
    clear hm hh
    have g1 : (x.k == 1) = false := by rw [hk]; rfl
    have g2 : (x.k == 2) = false := by rw [hk]; rfl
    have g3 : (x.k == 3) = false := by rw [hk]; rfl
    have g4 : (x.k == 4) = true := by rw [hk]; rfl
    have g5 : (x.k == 5) = false := by rw [hk]; rfl
    have g6 : (x.k == 6) = false := by rw [hk]; rfl
    have g7 : (x.k == 7) = false := by rw [hk]; rfl
    have g8 : (x.k == 8) = false := by rw [hk]; rfl
    refine fc_i TB_ok Tryz.func41 rfl (by kernel_rfl) ?_
    have hS := Sf.refl w
    repeat ((conv => whnf); first | (apply q_i; focus (intro w1 hS; (conv => whnf); first | exact ⟨rfl, rfl⟩ | ((refine ld_f hS 0 rfl rfl ?_); (conv => whnf); exact ⟨rfl, rfl⟩) | ((refine ld_f hS 1 rfl rfl ?_); (conv => whnf); exact ⟨rfl, rfl⟩) | ((refine ld_f hS 2 rfl rfl ?_); (conv => whnf); exact ⟨rfl, rfl⟩) | ((refine ldA_f hS 0 rfl rfl ?_); (conv => whnf); exact ⟨rfl, rfl⟩) | ((refine ldA_f hS 1 rfl rfl ?_); (conv => whnf); exact ⟨rfl, rfl⟩) | ((refine ldA_f hS 2 rfl rfl ?_); (conv => whnf); exact ⟨rfl, rfl⟩) | ((refine ldN_f hS 0 rfl (lb9 rfl) ?_); (conv => whnf); exact ⟨rfl, rfl⟩) | ((refine ldN_f hS 1 rfl (lb9 rfl) ?_); (conv => whnf); exact ⟨rfl, rfl⟩) | ((refine ldN_f hS 2 rfl (lb9 rfl) ?_); (conv => whnf); exact ⟨rfl, rfl⟩) | ((refine br_t (by assumption) ?_); (conv => whnf); exact ⟨rfl, rfl⟩) | ((refine br_f (by assumption) ?_); (conv => whnf); exact ⟨rfl, rfl⟩))) | (refine nw_f hS ?_; intro b w1 hS) | refine as_i hS ?_ | refine as_i (hS.subs (List.nil_sublist _) sb9) ?_ | refine as_i (hS.subs (List.Sublist.refl _) sb9) ?_ | refine bar_f hS ?_ | refine ld_f hS 0 rfl rfl ?_ | refine ld_f hS 1 rfl rfl ?_ | refine ld_f hS 2 rfl rfl ?_ | refine ldA_f hS 0 rfl rfl ?_ | refine ldA_f hS 1 rfl rfl ?_ | refine ldA_f hS 2 rfl rfl ?_ | (refine stN_f hS 0 rfl (lb9 rfl) rfl rfl ?_; (conv => whnf); intro w1 hS) | (refine stN_f hS 1 rfl (lb9 rfl) rfl rfl ?_; (conv => whnf); intro w1 hS) | (refine stN_f hS 2 rfl (lb9 rfl) rfl rfl ?_; (conv => whnf); intro w1 hS) | (refine stM_f hS 0 rfl (lb9 rfl) rfl ?_; (conv => whnf); intro w1 hS) | (refine stM_f hS 1 rfl (lb9 rfl) rfl ?_; (conv => whnf); intro w1 hS) | (refine stM_f hS 2 rfl (lb9 rfl) rfl ?_; (conv => whnf); intro w1 hS) | refine ldN_f hS 0 rfl (lb9 rfl) ?_ | refine ldN_f hS 1 rfl (lb9 rfl) ?_ | refine ldN_f hS 2 rfl (lb9 rfl) ?_ | refine br_t (by assumption) ?_ | refine br_f (by assumption) ?_ | refine br_t (by assumption) ?_ | refine br_f (by assumption) ?_)
    refine drawf (Ls := [_]) TB_ok rfl (by kernel_rfl) (by kernel_rfl) hS (List.Sublist.refl _) (.cons _ (.cons _ (.refl _))) ?_; intro w1 hS
    repeat' ((conv => whnf); first | refine And.intro ?_ ?_ | (apply q_i; focus (intro w1 hS; (conv => whnf); first | exact ⟨rfl, rfl⟩ | ((refine ld_f hS 0 rfl rfl ?_); (conv => whnf); exact ⟨rfl, rfl⟩) | ((refine ld_f hS 1 rfl rfl ?_); (conv => whnf); exact ⟨rfl, rfl⟩) | ((refine ld_f hS 2 rfl rfl ?_); (conv => whnf); exact ⟨rfl, rfl⟩) | ((refine ldA_f hS 0 rfl rfl ?_); (conv => whnf); exact ⟨rfl, rfl⟩) | ((refine ldA_f hS 1 rfl rfl ?_); (conv => whnf); exact ⟨rfl, rfl⟩) | ((refine ldA_f hS 2 rfl rfl ?_); (conv => whnf); exact ⟨rfl, rfl⟩) | ((refine ldN_f hS 0 rfl (lb9 rfl) ?_); (conv => whnf); exact ⟨rfl, rfl⟩) | ((refine ldN_f hS 1 rfl (lb9 rfl) ?_); (conv => whnf); exact ⟨rfl, rfl⟩) | ((refine ldN_f hS 2 rfl (lb9 rfl) ?_); (conv => whnf); exact ⟨rfl, rfl⟩) | ((refine br_t (by assumption) ?_); (conv => whnf); exact ⟨rfl, rfl⟩) | ((refine br_f (by assumption) ?_); (conv => whnf); exact ⟨rfl, rfl⟩))) | (refine nw_f hS ?_; intro b w1 hS) | refine as_i hS ?_ | refine as_i (hS.subs (List.nil_sublist _) sb9) ?_ | refine as_i (hS.subs (List.Sublist.refl _) sb9) ?_ | refine bar_f hS ?_ | refine ld_f hS 0 rfl rfl ?_ | refine ld_f hS 1 rfl rfl ?_ | refine ld_f hS 2 rfl rfl ?_ | refine ldA_f hS 0 rfl rfl ?_ | refine ldA_f hS 1 rfl rfl ?_ | refine ldA_f hS 2 rfl rfl ?_ | (refine stN_f hS 0 rfl (lb9 rfl) rfl rfl ?_; (conv => whnf); intro w1 hS) | (refine stN_f hS 1 rfl (lb9 rfl) rfl rfl ?_; (conv => whnf); intro w1 hS) | (refine stN_f hS 2 rfl (lb9 rfl) rfl rfl ?_; (conv => whnf); intro w1 hS) | (refine stM_f hS 0 rfl (lb9 rfl) rfl ?_; (conv => whnf); intro w1 hS) | (refine stM_f hS 1 rfl (lb9 rfl) rfl ?_; (conv => whnf); intro w1 hS) | (refine stM_f hS 2 rfl (lb9 rfl) rfl ?_; (conv => whnf); intro w1 hS) | refine ldN_f hS 0 rfl (lb9 rfl) ?_ | refine ldN_f hS 1 rfl (lb9 rfl) ?_ | refine ldN_f hS 2 rfl (lb9 rfl) ?_ | refine br_t (by assumption) ?_ | refine br_f (by assumption) ?_ | (refine drawf TB_ok rfl (by kernel_rfl) (by kernel_rfl) hS (List.Sublist.refl _) (List.Sublist.refl _) ?_; intro w1 hS) | refine br_t (by assumption) ?_ | refine br_f (by assumption) ?_)
    all_goals first
      | exact hS.nil
      | rfl
  · have hm : needR x = { zeroRx x.k with p := x.p, vi := x.vi, vt := x.vt, vc := x.vc, v := x.v } := by
      unfold needR
      rw [if_neg (by omega), if_neg (by omega), if_neg (by omega), if_neg (by omega), if_pos hk]
    have hh : needH x h = ⟨none, 0, h.B, h.e⟩ := by
      unfold needH
      rw [if_neg (by omega), if_pos hk]
    rw [hm, hh]
    clear hm hh
    have g1 : (x.k == 1) = false := by rw [hk]; rfl
    have g2 : (x.k == 2) = false := by rw [hk]; rfl
    have g3 : (x.k == 3) = false := by rw [hk]; rfl
    have g4 : (x.k == 4) = false := by rw [hk]; rfl
    have g5 : (x.k == 5) = true := by rw [hk]; rfl
    have g6 : (x.k == 6) = false := by rw [hk]; rfl
    have g7 : (x.k == 7) = false := by rw [hk]; rfl
    have g8 : (x.k == 8) = false := by rw [hk]; rfl
    refine fc_i TB_ok Tryz.func41 rfl (by kernel_rfl) ?_
    have hS := Sf.refl w
    repeat ((conv => whnf); first | (apply q_i; focus (intro w1 hS; (conv => whnf); first | exact ⟨rfl, rfl⟩ | ((refine ld_f hS 0 rfl rfl ?_); (conv => whnf); exact ⟨rfl, rfl⟩) | ((refine ld_f hS 1 rfl rfl ?_); (conv => whnf); exact ⟨rfl, rfl⟩) | ((refine ld_f hS 2 rfl rfl ?_); (conv => whnf); exact ⟨rfl, rfl⟩) | ((refine ldA_f hS 0 rfl rfl ?_); (conv => whnf); exact ⟨rfl, rfl⟩) | ((refine ldA_f hS 1 rfl rfl ?_); (conv => whnf); exact ⟨rfl, rfl⟩) | ((refine ldA_f hS 2 rfl rfl ?_); (conv => whnf); exact ⟨rfl, rfl⟩) | ((refine ldN_f hS 0 rfl (lb9 rfl) ?_); (conv => whnf); exact ⟨rfl, rfl⟩) | ((refine ldN_f hS 1 rfl (lb9 rfl) ?_); (conv => whnf); exact ⟨rfl, rfl⟩) | ((refine ldN_f hS 2 rfl (lb9 rfl) ?_); (conv => whnf); exact ⟨rfl, rfl⟩) | ((refine br_t (by assumption) ?_); (conv => whnf); exact ⟨rfl, rfl⟩) | ((refine br_f (by assumption) ?_); (conv => whnf); exact ⟨rfl, rfl⟩))) | (refine nw_f hS ?_; intro b w1 hS) | refine as_i hS ?_ | refine as_i (hS.subs (List.nil_sublist _) sb9) ?_ | refine as_i (hS.subs (List.Sublist.refl _) sb9) ?_ | refine bar_f hS ?_ | refine ld_f hS 0 rfl rfl ?_ | refine ld_f hS 1 rfl rfl ?_ | refine ld_f hS 2 rfl rfl ?_ | refine ldA_f hS 0 rfl rfl ?_ | refine ldA_f hS 1 rfl rfl ?_ | refine ldA_f hS 2 rfl rfl ?_ | (refine stN_f hS 0 rfl (lb9 rfl) rfl rfl ?_; (conv => whnf); intro w1 hS) | (refine stN_f hS 1 rfl (lb9 rfl) rfl rfl ?_; (conv => whnf); intro w1 hS) | (refine stN_f hS 2 rfl (lb9 rfl) rfl rfl ?_; (conv => whnf); intro w1 hS) | (refine stM_f hS 0 rfl (lb9 rfl) rfl ?_; (conv => whnf); intro w1 hS) | (refine stM_f hS 1 rfl (lb9 rfl) rfl ?_; (conv => whnf); intro w1 hS) | (refine stM_f hS 2 rfl (lb9 rfl) rfl ?_; (conv => whnf); intro w1 hS) | refine ldN_f hS 0 rfl (lb9 rfl) ?_ | refine ldN_f hS 1 rfl (lb9 rfl) ?_ | refine ldN_f hS 2 rfl (lb9 rfl) ?_ | refine br_t (by assumption) ?_ | refine br_f (by assumption) ?_ | refine br_t (by assumption) ?_ | refine br_f (by assumption) ?_)
    refine drawf (Ls := [_]) TB_ok rfl (by kernel_rfl) (by kernel_rfl) hS (List.Sublist.refl _) (.cons _ (.cons _ (.refl _))) ?_; intro w1 hS
    repeat' ((conv => whnf); first | refine And.intro ?_ ?_ | (apply q_i; focus (intro w1 hS; (conv => whnf); first | exact ⟨rfl, rfl⟩ | ((refine ld_f hS 0 rfl rfl ?_); (conv => whnf); exact ⟨rfl, rfl⟩) | ((refine ld_f hS 1 rfl rfl ?_); (conv => whnf); exact ⟨rfl, rfl⟩) | ((refine ld_f hS 2 rfl rfl ?_); (conv => whnf); exact ⟨rfl, rfl⟩) | ((refine ldA_f hS 0 rfl rfl ?_); (conv => whnf); exact ⟨rfl, rfl⟩) | ((refine ldA_f hS 1 rfl rfl ?_); (conv => whnf); exact ⟨rfl, rfl⟩) | ((refine ldA_f hS 2 rfl rfl ?_); (conv => whnf); exact ⟨rfl, rfl⟩) | ((refine ldN_f hS 0 rfl (lb9 rfl) ?_); (conv => whnf); exact ⟨rfl, rfl⟩) | ((refine ldN_f hS 1 rfl (lb9 rfl) ?_); (conv => whnf); exact ⟨rfl, rfl⟩) | ((refine ldN_f hS 2 rfl (lb9 rfl) ?_); (conv => whnf); exact ⟨rfl, rfl⟩) | ((refine br_t (by assumption) ?_); (conv => whnf); exact ⟨rfl, rfl⟩) | ((refine br_f (by assumption) ?_); (conv => whnf); exact ⟨rfl, rfl⟩))) | (refine nw_f hS ?_; intro b w1 hS) | refine as_i hS ?_ | refine as_i (hS.subs (List.nil_sublist _) sb9) ?_ | refine as_i (hS.subs (List.Sublist.refl _) sb9) ?_ | refine bar_f hS ?_ | refine ld_f hS 0 rfl rfl ?_ | refine ld_f hS 1 rfl rfl ?_ | refine ld_f hS 2 rfl rfl ?_ | refine ldA_f hS 0 rfl rfl ?_ | refine ldA_f hS 1 rfl rfl ?_ | refine ldA_f hS 2 rfl rfl ?_ | (refine stN_f hS 0 rfl (lb9 rfl) rfl rfl ?_; (conv => whnf); intro w1 hS) | (refine stN_f hS 1 rfl (lb9 rfl) rfl rfl ?_; (conv => whnf); intro w1 hS) | (refine stN_f hS 2 rfl (lb9 rfl) rfl rfl ?_; (conv => whnf); intro w1 hS) | (refine stM_f hS 0 rfl (lb9 rfl) rfl ?_; (conv => whnf); intro w1 hS) | (refine stM_f hS 1 rfl (lb9 rfl) rfl ?_; (conv => whnf); intro w1 hS) | (refine stM_f hS 2 rfl (lb9 rfl) rfl ?_; (conv => whnf); intro w1 hS) | refine ldN_f hS 0 rfl (lb9 rfl) ?_ | refine ldN_f hS 1 rfl (lb9 rfl) ?_ | refine ldN_f hS 2 rfl (lb9 rfl) ?_ | refine br_t (by assumption) ?_ | refine br_f (by assumption) ?_ | (refine drawf TB_ok rfl (by kernel_rfl) (by kernel_rfl) hS (List.Sublist.refl _) (List.Sublist.refl _) ?_; intro w1 hS) | refine br_t (by assumption) ?_ | refine br_f (by assumption) ?_)
    all_goals first
      | exact hS.nil
      | rfl
  · have hm : needR x = { zeroRx x.k with vi := x.vi } := by
      unfold needR
      rw [if_neg (by omega), if_neg (by omega), if_neg (by omega), if_neg (by omega), if_neg (by omega), if_pos hk]
    have hh : needH x h = noHd := by
      unfold needH
      rw [if_neg (by omega), if_neg (by omega)]
    rw [hm, hh]
    clear hm hh
    have g1 : (x.k == 1) = false := by rw [hk]; rfl
    have g2 : (x.k == 2) = false := by rw [hk]; rfl
    have g3 : (x.k == 3) = false := by rw [hk]; rfl
    have g4 : (x.k == 4) = false := by rw [hk]; rfl
    have g5 : (x.k == 5) = false := by rw [hk]; rfl
    have g6 : (x.k == 6) = true := by rw [hk]; rfl
    have g7 : (x.k == 7) = false := by rw [hk]; rfl
    have g8 : (x.k == 8) = false := by rw [hk]; rfl
    refine fc_i TB_ok Tryz.func41 rfl (by kernel_rfl) ?_
    have hS := Sf.refl w
    repeat' ((conv => whnf); first | refine And.intro ?_ ?_ | (apply q_i; focus (intro w1 hS; (conv => whnf); first | exact ⟨rfl, rfl⟩ | ((refine ld_f hS 0 rfl rfl ?_); (conv => whnf); exact ⟨rfl, rfl⟩) | ((refine ld_f hS 1 rfl rfl ?_); (conv => whnf); exact ⟨rfl, rfl⟩) | ((refine ld_f hS 2 rfl rfl ?_); (conv => whnf); exact ⟨rfl, rfl⟩) | ((refine ldA_f hS 0 rfl rfl ?_); (conv => whnf); exact ⟨rfl, rfl⟩) | ((refine ldA_f hS 1 rfl rfl ?_); (conv => whnf); exact ⟨rfl, rfl⟩) | ((refine ldA_f hS 2 rfl rfl ?_); (conv => whnf); exact ⟨rfl, rfl⟩) | ((refine ldN_f hS 0 rfl (lb9 rfl) ?_); (conv => whnf); exact ⟨rfl, rfl⟩) | ((refine ldN_f hS 1 rfl (lb9 rfl) ?_); (conv => whnf); exact ⟨rfl, rfl⟩) | ((refine ldN_f hS 2 rfl (lb9 rfl) ?_); (conv => whnf); exact ⟨rfl, rfl⟩) | ((refine br_t (by assumption) ?_); (conv => whnf); exact ⟨rfl, rfl⟩) | ((refine br_f (by assumption) ?_); (conv => whnf); exact ⟨rfl, rfl⟩))) | (refine nw_f hS ?_; intro b w1 hS) | refine as_i hS ?_ | refine as_i (hS.subs (List.nil_sublist _) sb9) ?_ | refine as_i (hS.subs (List.Sublist.refl _) sb9) ?_ | refine bar_f hS ?_ | refine ld_f hS 0 rfl rfl ?_ | refine ld_f hS 1 rfl rfl ?_ | refine ld_f hS 2 rfl rfl ?_ | refine ldA_f hS 0 rfl rfl ?_ | refine ldA_f hS 1 rfl rfl ?_ | refine ldA_f hS 2 rfl rfl ?_ | (refine stN_f hS 0 rfl (lb9 rfl) rfl rfl ?_; (conv => whnf); intro w1 hS) | (refine stN_f hS 1 rfl (lb9 rfl) rfl rfl ?_; (conv => whnf); intro w1 hS) | (refine stN_f hS 2 rfl (lb9 rfl) rfl rfl ?_; (conv => whnf); intro w1 hS) | (refine stM_f hS 0 rfl (lb9 rfl) rfl ?_; (conv => whnf); intro w1 hS) | (refine stM_f hS 1 rfl (lb9 rfl) rfl ?_; (conv => whnf); intro w1 hS) | (refine stM_f hS 2 rfl (lb9 rfl) rfl ?_; (conv => whnf); intro w1 hS) | refine ldN_f hS 0 rfl (lb9 rfl) ?_ | refine ldN_f hS 1 rfl (lb9 rfl) ?_ | refine ldN_f hS 2 rfl (lb9 rfl) ?_ | refine br_t (by assumption) ?_ | refine br_f (by assumption) ?_ | (refine drawf TB_ok rfl (by kernel_rfl) (by kernel_rfl) hS (List.Sublist.refl _) (List.Sublist.refl _) ?_; intro w1 hS) | refine br_t (by assumption) ?_ | refine br_f (by assumption) ?_)
    all_goals first
      | exact hS.nil
      | rfl
  · have hm : needR x = { zeroRx x.k with ci := x.ci, cb := x.cb, cr := x.cr, cs := x.cs } := by
      unfold needR
      rw [if_neg (by omega), if_neg (by omega), if_neg (by omega), if_neg (by omega), if_neg (by omega), if_neg (by omega), if_pos hk]
    have hh : needH x h = noHd := by
      unfold needH
      rw [if_neg (by omega), if_neg (by omega)]
    rw [hm, hh]
    clear hm hh
    have g1 : (x.k == 1) = false := by rw [hk]; rfl
    have g2 : (x.k == 2) = false := by rw [hk]; rfl
    have g3 : (x.k == 3) = false := by rw [hk]; rfl
    have g4 : (x.k == 4) = false := by rw [hk]; rfl
    have g5 : (x.k == 5) = false := by rw [hk]; rfl
    have g6 : (x.k == 6) = false := by rw [hk]; rfl
    have g7 : (x.k == 7) = true := by rw [hk]; rfl
    have g8 : (x.k == 8) = false := by rw [hk]; rfl
    refine fc_i TB_ok Tryz.func41 rfl (by kernel_rfl) ?_
    have hS := Sf.refl w
    repeat' ((conv => whnf); first | refine And.intro ?_ ?_ | (apply q_i; focus (intro w1 hS; (conv => whnf); first | exact ⟨rfl, rfl⟩ | ((refine ld_f hS 0 rfl rfl ?_); (conv => whnf); exact ⟨rfl, rfl⟩) | ((refine ld_f hS 1 rfl rfl ?_); (conv => whnf); exact ⟨rfl, rfl⟩) | ((refine ld_f hS 2 rfl rfl ?_); (conv => whnf); exact ⟨rfl, rfl⟩) | ((refine ldA_f hS 0 rfl rfl ?_); (conv => whnf); exact ⟨rfl, rfl⟩) | ((refine ldA_f hS 1 rfl rfl ?_); (conv => whnf); exact ⟨rfl, rfl⟩) | ((refine ldA_f hS 2 rfl rfl ?_); (conv => whnf); exact ⟨rfl, rfl⟩) | ((refine ldN_f hS 0 rfl (lb9 rfl) ?_); (conv => whnf); exact ⟨rfl, rfl⟩) | ((refine ldN_f hS 1 rfl (lb9 rfl) ?_); (conv => whnf); exact ⟨rfl, rfl⟩) | ((refine ldN_f hS 2 rfl (lb9 rfl) ?_); (conv => whnf); exact ⟨rfl, rfl⟩) | ((refine br_t (by assumption) ?_); (conv => whnf); exact ⟨rfl, rfl⟩) | ((refine br_f (by assumption) ?_); (conv => whnf); exact ⟨rfl, rfl⟩))) | (refine nw_f hS ?_; intro b w1 hS) | refine as_i hS ?_ | refine as_i (hS.subs (List.nil_sublist _) sb9) ?_ | refine as_i (hS.subs (List.Sublist.refl _) sb9) ?_ | refine bar_f hS ?_ | refine ld_f hS 0 rfl rfl ?_ | refine ld_f hS 1 rfl rfl ?_ | refine ld_f hS 2 rfl rfl ?_ | refine ldA_f hS 0 rfl rfl ?_ | refine ldA_f hS 1 rfl rfl ?_ | refine ldA_f hS 2 rfl rfl ?_ | (refine stN_f hS 0 rfl (lb9 rfl) rfl rfl ?_; (conv => whnf); intro w1 hS) | (refine stN_f hS 1 rfl (lb9 rfl) rfl rfl ?_; (conv => whnf); intro w1 hS) | (refine stN_f hS 2 rfl (lb9 rfl) rfl rfl ?_; (conv => whnf); intro w1 hS) | (refine stM_f hS 0 rfl (lb9 rfl) rfl ?_; (conv => whnf); intro w1 hS) | (refine stM_f hS 1 rfl (lb9 rfl) rfl ?_; (conv => whnf); intro w1 hS) | (refine stM_f hS 2 rfl (lb9 rfl) rfl ?_; (conv => whnf); intro w1 hS) | refine ldN_f hS 0 rfl (lb9 rfl) ?_ | refine ldN_f hS 1 rfl (lb9 rfl) ?_ | refine ldN_f hS 2 rfl (lb9 rfl) ?_ | refine br_t (by assumption) ?_ | refine br_f (by assumption) ?_ | (refine drawf TB_ok rfl (by kernel_rfl) (by kernel_rfl) hS (List.Sublist.refl _) (List.Sublist.refl _) ?_; intro w1 hS) | refine br_t (by assumption) ?_ | refine br_f (by assumption) ?_)
    all_goals first
      | exact hS.nil
      | rfl
  · have hm : needR x = { zeroRx x.k with r := x.r, p := x.p, g := x.g } := by
      unfold needR
      rw [if_neg (by omega), if_neg (by omega), if_neg (by omega), if_neg (by omega), if_neg (by omega), if_neg (by omega), if_neg (by omega), if_pos hk]
    have hh : needH x h = noHd := by
      unfold needH
      rw [if_neg (by omega), if_neg (by omega)]
    rw [hm, hh]
    clear hm hh
    have g1 : (x.k == 1) = false := by rw [hk]; rfl
    have g2 : (x.k == 2) = false := by rw [hk]; rfl
    have g3 : (x.k == 3) = false := by rw [hk]; rfl
    have g4 : (x.k == 4) = false := by rw [hk]; rfl
    have g5 : (x.k == 5) = false := by rw [hk]; rfl
    have g6 : (x.k == 6) = false := by rw [hk]; rfl
    have g7 : (x.k == 7) = false := by rw [hk]; rfl
    have g8 : (x.k == 8) = true := by rw [hk]; rfl
    refine fc_i TB_ok Tryz.func41 rfl (by kernel_rfl) ?_
    have hS := Sf.refl w
    repeat ((conv => whnf); first | (apply q_i; focus (intro w1 hS; (conv => whnf); first | exact ⟨rfl, rfl⟩ | ((refine ld_f hS 0 rfl rfl ?_); (conv => whnf); exact ⟨rfl, rfl⟩) | ((refine ld_f hS 1 rfl rfl ?_); (conv => whnf); exact ⟨rfl, rfl⟩) | ((refine ld_f hS 2 rfl rfl ?_); (conv => whnf); exact ⟨rfl, rfl⟩) | ((refine ldA_f hS 0 rfl rfl ?_); (conv => whnf); exact ⟨rfl, rfl⟩) | ((refine ldA_f hS 1 rfl rfl ?_); (conv => whnf); exact ⟨rfl, rfl⟩) | ((refine ldA_f hS 2 rfl rfl ?_); (conv => whnf); exact ⟨rfl, rfl⟩) | ((refine ldN_f hS 0 rfl (lb9 rfl) ?_); (conv => whnf); exact ⟨rfl, rfl⟩) | ((refine ldN_f hS 1 rfl (lb9 rfl) ?_); (conv => whnf); exact ⟨rfl, rfl⟩) | ((refine ldN_f hS 2 rfl (lb9 rfl) ?_); (conv => whnf); exact ⟨rfl, rfl⟩) | ((refine br_t (by assumption) ?_); (conv => whnf); exact ⟨rfl, rfl⟩) | ((refine br_f (by assumption) ?_); (conv => whnf); exact ⟨rfl, rfl⟩))) | (refine nw_f hS ?_; intro b w1 hS) | refine as_i hS ?_ | refine as_i (hS.subs (List.nil_sublist _) sb9) ?_ | refine as_i (hS.subs (List.Sublist.refl _) sb9) ?_ | refine bar_f hS ?_ | refine ld_f hS 0 rfl rfl ?_ | refine ld_f hS 1 rfl rfl ?_ | refine ld_f hS 2 rfl rfl ?_ | refine ldA_f hS 0 rfl rfl ?_ | refine ldA_f hS 1 rfl rfl ?_ | refine ldA_f hS 2 rfl rfl ?_ | (refine stN_f hS 0 rfl (lb9 rfl) rfl rfl ?_; (conv => whnf); intro w1 hS) | (refine stN_f hS 1 rfl (lb9 rfl) rfl rfl ?_; (conv => whnf); intro w1 hS) | (refine stN_f hS 2 rfl (lb9 rfl) rfl rfl ?_; (conv => whnf); intro w1 hS) | (refine stM_f hS 0 rfl (lb9 rfl) rfl ?_; (conv => whnf); intro w1 hS) | (refine stM_f hS 1 rfl (lb9 rfl) rfl ?_; (conv => whnf); intro w1 hS) | (refine stM_f hS 2 rfl (lb9 rfl) rfl ?_; (conv => whnf); intro w1 hS) | refine ldN_f hS 0 rfl (lb9 rfl) ?_ | refine ldN_f hS 1 rfl (lb9 rfl) ?_ | refine ldN_f hS 2 rfl (lb9 rfl) ?_ | refine br_t (by assumption) ?_ | refine br_f (by assumption) ?_ | refine br_t (by assumption) ?_ | refine br_f (by assumption) ?_)
    refine drawf (Ls := [_]) TB_ok rfl (by kernel_rfl) (by kernel_rfl) hS (List.Sublist.refl _) (.cons _ (.cons _ (.refl _))) ?_; intro w1 hS
    repeat' ((conv => whnf); first | refine And.intro ?_ ?_ | (apply q_i; focus (intro w1 hS; (conv => whnf); first | exact ⟨rfl, rfl⟩ | ((refine ld_f hS 0 rfl rfl ?_); (conv => whnf); exact ⟨rfl, rfl⟩) | ((refine ld_f hS 1 rfl rfl ?_); (conv => whnf); exact ⟨rfl, rfl⟩) | ((refine ld_f hS 2 rfl rfl ?_); (conv => whnf); exact ⟨rfl, rfl⟩) | ((refine ldA_f hS 0 rfl rfl ?_); (conv => whnf); exact ⟨rfl, rfl⟩) | ((refine ldA_f hS 1 rfl rfl ?_); (conv => whnf); exact ⟨rfl, rfl⟩) | ((refine ldA_f hS 2 rfl rfl ?_); (conv => whnf); exact ⟨rfl, rfl⟩) | ((refine ldN_f hS 0 rfl (lb9 rfl) ?_); (conv => whnf); exact ⟨rfl, rfl⟩) | ((refine ldN_f hS 1 rfl (lb9 rfl) ?_); (conv => whnf); exact ⟨rfl, rfl⟩) | ((refine ldN_f hS 2 rfl (lb9 rfl) ?_); (conv => whnf); exact ⟨rfl, rfl⟩) | ((refine br_t (by assumption) ?_); (conv => whnf); exact ⟨rfl, rfl⟩) | ((refine br_f (by assumption) ?_); (conv => whnf); exact ⟨rfl, rfl⟩))) | (refine nw_f hS ?_; intro b w1 hS) | refine as_i hS ?_ | refine as_i (hS.subs (List.nil_sublist _) sb9) ?_ | refine as_i (hS.subs (List.Sublist.refl _) sb9) ?_ | refine bar_f hS ?_ | refine ld_f hS 0 rfl rfl ?_ | refine ld_f hS 1 rfl rfl ?_ | refine ld_f hS 2 rfl rfl ?_ | refine ldA_f hS 0 rfl rfl ?_ | refine ldA_f hS 1 rfl rfl ?_ | refine ldA_f hS 2 rfl rfl ?_ | (refine stN_f hS 0 rfl (lb9 rfl) rfl rfl ?_; (conv => whnf); intro w1 hS) | (refine stN_f hS 1 rfl (lb9 rfl) rfl rfl ?_; (conv => whnf); intro w1 hS) | (refine stN_f hS 2 rfl (lb9 rfl) rfl rfl ?_; (conv => whnf); intro w1 hS) | (refine stM_f hS 0 rfl (lb9 rfl) rfl ?_; (conv => whnf); intro w1 hS) | (refine stM_f hS 1 rfl (lb9 rfl) rfl ?_; (conv => whnf); intro w1 hS) | (refine stM_f hS 2 rfl (lb9 rfl) rfl ?_; (conv => whnf); intro w1 hS) | refine ldN_f hS 0 rfl (lb9 rfl) ?_ | refine ldN_f hS 1 rfl (lb9 rfl) ?_ | refine ldN_f hS 2 rfl (lb9 rfl) ?_ | refine br_t (by assumption) ?_ | refine br_f (by assumption) ?_ | (refine drawf TB_ok rfl (by kernel_rfl) (by kernel_rfl) hS (List.Sublist.refl _) (List.Sublist.refl _) ?_; intro w1 hS) | refine br_t (by assumption) ?_ | refine br_f (by assumption) ?_)
    all_goals first
      | exact hS.nil
      | rfl
  · have hm : needR x = zeroRx x.k := by
      unfold needR
      rw [if_neg (by omega), if_neg (by omega), if_neg (by omega), if_neg (by omega), if_neg (by omega), if_neg (by omega), if_neg (by omega), if_neg (by omega)]
    have hh : needH x h = noHd := by
      unfold needH
      rw [if_neg (by omega), if_neg (by omega)]
    rw [hm, hh]
    clear hm hh
    have g1 : (x.k == 1) = false := by simp; omega
    have g2 : (x.k == 2) = false := by simp; omega
    have g3 : (x.k == 3) = false := by simp; omega
    have g4 : (x.k == 4) = false := by simp; omega
    have g5 : (x.k == 5) = false := by simp; omega
    have g6 : (x.k == 6) = false := by simp; omega
    have g7 : (x.k == 7) = false := by simp; omega
    have g8 : (x.k == 8) = false := by simp; omega
    refine fc_i TB_ok Tryz.func41 rfl (by kernel_rfl) ?_
    have hS := Sf.refl w
    repeat' ((conv => whnf); first | refine And.intro ?_ ?_ | (apply q_i; focus (intro w1 hS; (conv => whnf); first | exact ⟨rfl, rfl⟩ | ((refine ld_f hS 0 rfl rfl ?_); (conv => whnf); exact ⟨rfl, rfl⟩) | ((refine ld_f hS 1 rfl rfl ?_); (conv => whnf); exact ⟨rfl, rfl⟩) | ((refine ld_f hS 2 rfl rfl ?_); (conv => whnf); exact ⟨rfl, rfl⟩) | ((refine ldA_f hS 0 rfl rfl ?_); (conv => whnf); exact ⟨rfl, rfl⟩) | ((refine ldA_f hS 1 rfl rfl ?_); (conv => whnf); exact ⟨rfl, rfl⟩) | ((refine ldA_f hS 2 rfl rfl ?_); (conv => whnf); exact ⟨rfl, rfl⟩) | ((refine ldN_f hS 0 rfl (lb9 rfl) ?_); (conv => whnf); exact ⟨rfl, rfl⟩) | ((refine ldN_f hS 1 rfl (lb9 rfl) ?_); (conv => whnf); exact ⟨rfl, rfl⟩) | ((refine ldN_f hS 2 rfl (lb9 rfl) ?_); (conv => whnf); exact ⟨rfl, rfl⟩) | ((refine br_t (by assumption) ?_); (conv => whnf); exact ⟨rfl, rfl⟩) | ((refine br_f (by assumption) ?_); (conv => whnf); exact ⟨rfl, rfl⟩))) | (refine nw_f hS ?_; intro b w1 hS) | refine as_i hS ?_ | refine as_i (hS.subs (List.nil_sublist _) sb9) ?_ | refine as_i (hS.subs (List.Sublist.refl _) sb9) ?_ | refine bar_f hS ?_ | refine ld_f hS 0 rfl rfl ?_ | refine ld_f hS 1 rfl rfl ?_ | refine ld_f hS 2 rfl rfl ?_ | refine ldA_f hS 0 rfl rfl ?_ | refine ldA_f hS 1 rfl rfl ?_ | refine ldA_f hS 2 rfl rfl ?_ | (refine stN_f hS 0 rfl (lb9 rfl) rfl rfl ?_; (conv => whnf); intro w1 hS) | (refine stN_f hS 1 rfl (lb9 rfl) rfl rfl ?_; (conv => whnf); intro w1 hS) | (refine stN_f hS 2 rfl (lb9 rfl) rfl rfl ?_; (conv => whnf); intro w1 hS) | (refine stM_f hS 0 rfl (lb9 rfl) rfl ?_; (conv => whnf); intro w1 hS) | (refine stM_f hS 1 rfl (lb9 rfl) rfl ?_; (conv => whnf); intro w1 hS) | (refine stM_f hS 2 rfl (lb9 rfl) rfl ?_; (conv => whnf); intro w1 hS) | refine ldN_f hS 0 rfl (lb9 rfl) ?_ | refine ldN_f hS 1 rfl (lb9 rfl) ?_ | refine ldN_f hS 2 rfl (lb9 rfl) ?_ | refine br_t (by assumption) ?_ | refine br_f (by assumption) ?_ | (refine drawf TB_ok rfl (by kernel_rfl) (by kernel_rfl) hS (List.Sublist.refl _) (List.Sublist.refl _) ?_; intro w1 hS) | refine br_t (by assumption) ?_ | refine br_f (by assumption) ?_)
    all_goals first
      | exact hS.nil
      | rfl
end Go.RV


set_option maxRecDepth 20000
set_option linter.unusedVariables false
set_option linter.unusedSimpArgs false
namespace Go.RV
open Go Go.Proofs Go.RowKit

theorem MemR.need {w : World} {x : Rx} {h : Hd} {ms : List Sm} (m : MemR w x h ms) : MemR w (needR x) (needH x h) (needM x ms) := by
  have h0 : RdM w none [] := ⟨.inl rfl, fun m hm => nomatch hm⟩
  have hv : Rd w none (flat encU zeroVa.ks) := .inl rfl
  by_cases h4 : x.k = 4
  · have e1 : needR x = { zeroRx x.k with p := x.p, f := x.f, xs := x.xs } := by
      unfold needR
      rw [if_neg (by omega), if_neg (by omega), if_neg (by omega), if_pos h4]
    have e2 : needH x h = ⟨h.A, h.c, none, 0⟩ := by unfold needH; rw [if_pos h4]
    have e3 : needM x ms = ms := by unfold needM; rw [if_pos h4]
    rw [e1, e2, e3]
    exact ⟨m.eq, m.l, hv⟩
  · have e3 : needM x ms = [] := by unfold needM; rw [if_neg h4]
    rw [e3]
    by_cases h5 : x.k = 5
    · have e1 : needR x = { zeroRx x.k with p := x.p, vi := x.vi, vt := x.vt, vc := x.vc, v := x.v } := by
        unfold needR
        rw [if_neg (by omega), if_neg (by omega), if_neg (by omega), if_neg (by omega), if_pos h5]
      have e2 : needH x h = ⟨none, 0, h.B, h.e⟩ := by unfold needH; rw [if_neg h4, if_pos h5]
      rw [e1, e2]
      exact ⟨rfl, h0, m.v⟩
    · have e2 : needH x h = noHd := by unfold needH; rw [if_neg h4, if_neg h5]
      rw [e2]
      have e1 : (needR x).xs = [] ∧ (needR x).v = zeroVa := by
        unfold needR
        repeat' split
        all_goals first
          | exact ⟨rfl, rfl⟩
          | omega
      exact ⟨e1.1, h0, by rw [e1.2]; exact hv⟩
structure szR (x : Rx) : Prop where
  p : x.p.length ≤ 1000
  l : x.xs.length ≤ 1073741824
  el : ∀ s ∈ x.xs, s.v.ks.length ≤ 1073741824
  v : x.v.ks.length ≤ 1073741824
theorem fewR.sz {x : Rx} (h : fewR x) : szR x := ⟨by have := h.p; omega, by have := h.l; omega, fun s hs => by have := h.el s hs; omega, by have := h.v; omega⟩
set_option maxHeartbeats 4000000 in
theorem check18_c (x : Rx) (ho : okR x) (hz : szR x) (h : Hd) (ms : List Sm) (w : World) (hx : MemR w x h ms) :
    Fc Tryz.prog 15 [recV x h] w fun v w' => v = .int .i64 (if checkR x then 0 else 4) ∧ St [] w w' [] := by
  have hm := fun w' => rmay18_c x ho h ms w'
  have hs := fun w' => sameR_c x (needR x) h (needH x h) ms (needM x ms) w'
  have hn := fun w' => need_c x h w'
  have hc : checkR x = (mayR x && sameR x (needR x)) := rfl
  rw [hc]
  have hp := hz.p
  have hl := hz.l
  have hv := hz.v
  generalize mayR x = a at *
  generalize sameR x (needR x) = c at *
  refine fc_i TB_ok Tryz.func15 rfl (by kernel_rfl) ?_
  have hS := Sf.refl w
  cases a with
  | false =>
    repeat ((conv => whnf); first | (apply q_i; focus (intro w1 hS; (conv => whnf); first | exact ⟨rfl, rfl⟩ | ((refine ld_f hS 0 rfl rfl ?_); (conv => whnf); exact ⟨rfl, rfl⟩) | ((refine ldA_f hS 0 rfl rfl ?_); (conv => whnf); exact ⟨rfl, rfl⟩) | ((refine fc_m (hm _ (hx.below hS.nil) hp hl hz.el hv) ?_; rintro v w3 ⟨rfl, hS'⟩; replace hS := hS.call0 hS'); (conv => whnf); exact ⟨rfl, rfl⟩))) | (refine nw_f hS ?_; intro b w1 hS) | refine as_i hS ?_ | refine as_i (hS.subs (List.nil_sublist _) sb9) ?_ | refine as_i (hS.subs (List.Sublist.refl _) sb9) ?_ | refine bar_f hS ?_ | refine ld_f hS 0 rfl rfl ?_ | refine ldA_f hS 0 rfl rfl ?_ | (refine stN_f hS 0 rfl (lb9 rfl) rfl rfl ?_; (conv => whnf); intro w1 hS) | (refine stM_f hS 0 rfl (lb9 rfl) rfl ?_; (conv => whnf); intro w1 hS) | (refine fc_m (hm _ (hx.below hS.nil) hp hl hz.el hv) ?_; rintro v w3 ⟨rfl, hS'⟩; replace hS := hS.call0 hS') | (refine drawf TB_ok rfl (by kernel_rfl) (by kernel_rfl) hS (List.Sublist.refl _) (List.Sublist.refl _) ?_; intro w1 hS) | refine br_t (by assumption) ?_ | refine br_f (by assumption) ?_)
    exact ⟨rfl, hS.nil⟩
  | true =>
    cases c with
    | true =>
      repeat ((conv => whnf); first | (apply q_i; focus (intro w1 hS; (conv => whnf); first | exact ⟨rfl, rfl⟩ | ((refine ld_f hS 0 rfl rfl ?_); (conv => whnf); exact ⟨rfl, rfl⟩) | ((refine ldA_f hS 0 rfl rfl ?_); (conv => whnf); exact ⟨rfl, rfl⟩) | ((refine fc_m (hm _ (hx.below hS.nil) hp hl hz.el hv) ?_; rintro v w3 ⟨rfl, hS'⟩; replace hS := hS.call0 hS'); (conv => whnf); exact ⟨rfl, rfl⟩) | ((refine fc_m (hn _) ?_; rintro v w3 ⟨rfl, hS'⟩; replace hS := hS.call0 hS'); (conv => whnf); exact ⟨rfl, rfl⟩) | ((refine fc_m (hs _ (hx.below hS.nil) (hx.below hS.nil).need hl hz.el hv) ?_; rintro v w3 ⟨rfl, hS'⟩; replace hS := hS.call0 hS'); (conv => whnf); exact ⟨rfl, rfl⟩))) | (refine nw_f hS ?_; intro b w1 hS) | refine as_i hS ?_ | refine as_i (hS.subs (List.nil_sublist _) sb9) ?_ | refine as_i (hS.subs (List.Sublist.refl _) sb9) ?_ | refine bar_f hS ?_ | refine ld_f hS 0 rfl rfl ?_ | refine ldA_f hS 0 rfl rfl ?_ | (refine stN_f hS 0 rfl (lb9 rfl) rfl rfl ?_; (conv => whnf); intro w1 hS) | (refine stM_f hS 0 rfl (lb9 rfl) rfl ?_; (conv => whnf); intro w1 hS) | (refine fc_m (hm _ (hx.below hS.nil) hp hl hz.el hv) ?_; rintro v w3 ⟨rfl, hS'⟩; replace hS := hS.call0 hS') | (refine fc_m (hn _) ?_; rintro v w3 ⟨rfl, hS'⟩; replace hS := hS.call0 hS') | (refine fc_m (hs _ (hx.below hS.nil) (hx.below hS.nil).need hl hz.el hv) ?_; rintro v w3 ⟨rfl, hS'⟩; replace hS := hS.call0 hS') | (refine drawf TB_ok rfl (by kernel_rfl) (by kernel_rfl) hS (List.Sublist.refl _) (List.Sublist.refl _) ?_; intro w1 hS) | refine br_t (by assumption) ?_ | refine br_f (by assumption) ?_)
      exact ⟨rfl, hS.nil⟩
    | false =>
      repeat ((conv => whnf); first | (apply q_i; focus (intro w1 hS; (conv => whnf); first | exact ⟨rfl, rfl⟩ | ((refine ld_f hS 0 rfl rfl ?_); (conv => whnf); exact ⟨rfl, rfl⟩) | ((refine ldA_f hS 0 rfl rfl ?_); (conv => whnf); exact ⟨rfl, rfl⟩) | ((refine fc_m (hm _ (hx.below hS.nil) hp hl hz.el hv) ?_; rintro v w3 ⟨rfl, hS'⟩; replace hS := hS.call0 hS'); (conv => whnf); exact ⟨rfl, rfl⟩) | ((refine fc_m (hn _) ?_; rintro v w3 ⟨rfl, hS'⟩; replace hS := hS.call0 hS'); (conv => whnf); exact ⟨rfl, rfl⟩) | ((refine fc_m (hs _ (hx.below hS.nil) (hx.below hS.nil).need hl hz.el hv) ?_; rintro v w3 ⟨rfl, hS'⟩; replace hS := hS.call0 hS'); (conv => whnf); exact ⟨rfl, rfl⟩))) | (refine nw_f hS ?_; intro b w1 hS) | refine as_i hS ?_ | refine as_i (hS.subs (List.nil_sublist _) sb9) ?_ | refine as_i (hS.subs (List.Sublist.refl _) sb9) ?_ | refine bar_f hS ?_ | refine ld_f hS 0 rfl rfl ?_ | refine ldA_f hS 0 rfl rfl ?_ | (refine stN_f hS 0 rfl (lb9 rfl) rfl rfl ?_; (conv => whnf); intro w1 hS) | (refine stM_f hS 0 rfl (lb9 rfl) rfl ?_; (conv => whnf); intro w1 hS) | (refine fc_m (hm _ (hx.below hS.nil) hp hl hz.el hv) ?_; rintro v w3 ⟨rfl, hS'⟩; replace hS := hS.call0 hS') | (refine fc_m (hn _) ?_; rintro v w3 ⟨rfl, hS'⟩; replace hS := hS.call0 hS') | (refine fc_m (hs _ (hx.below hS.nil) (hx.below hS.nil).need hl hz.el hv) ?_; rintro v w3 ⟨rfl, hS'⟩; replace hS := hS.call0 hS') | (refine drawf TB_ok rfl (by kernel_rfl) (by kernel_rfl) hS (List.Sublist.refl _) (List.Sublist.refl _) ?_; intro w1 hS) | refine br_t (by assumption) ?_ | refine br_f (by assumption) ?_)
      exact ⟨rfl, hS.nil⟩
theorem putPath_c (bw : Nat) (bs : List UInt8) (L : LM) (hW : Wr bw bs L) (p : List UInt8) (hp : p.length ≤ 255) (w : World) (hS : St (keys L) w w L) (hn : bs.length ≤ 35184372088832) :
    Fc Tryz.prog 65 [.pointer (some ⟨bw, 0, none⟩), .string (strY p)] w fun v w' => ∃ L', Wr bw (bs ++ pathT p) L' ∧ St (keys L) w w' L' := by
  have hpz := strY_size p
  refine fc_i TB_ok Tryz.func65 rfl (by kernel_rfl) ?_
  have hS : Sf (keys L) w w (L ++ []) [] := ⟨by simpa using hS⟩
  repeat ((conv => whnf); first | (apply q_i; focus (intro w1 hS; (conv => whnf); first | exact ⟨rfl, rfl⟩ | ((refine ld_f hS 0 rfl rfl ?_); (conv => whnf); exact ⟨rfl, rfl⟩) | ((refine ldA_f hS 0 rfl rfl ?_); (conv => whnf); exact ⟨rfl, rfl⟩))) | (refine nw_f hS ?_; intro b w1 hS) | refine as_i hS ?_ | refine as_i (hS.subs (List.nil_sublist _) sb9) ?_ | refine as_i (hS.subs (List.Sublist.refl _) sb9) ?_ | refine bar_f hS ?_ | refine ld_f hS 0 rfl rfl ?_ | refine ldA_f hS 0 rfl rfl ?_ | (refine stN_f hS 0 rfl (lb9 rfl) rfl rfl ?_; (conv => whnf); intro w1 hS) | (refine stM_f hS 0 rfl (lb9 rfl) rfl ?_; (conv => whnf); intro w1 hS) | (refine drawf TB_ok rfl (by kernel_rfl) (by kernel_rfl) hS (List.Sublist.refl _) (List.Sublist.refl _) ?_; intro w1 hS) | refine br_t (by assumption) ?_ | refine br_f (by assumption) ?_)
  (conv => whnf)
  refine fc_m (w8u_c _ _ L hW _ (by omega) (by omega) _ hS.ownF (by omega)) ?_
  rintro v w2 ⟨L2, hW2, hS'⟩
  replace hS := hS.callW hS'
  repeat ((conv => whnf); first | (apply q_i; focus (intro w1 hS; (conv => whnf); first | exact ⟨rfl, rfl⟩ | ((refine ld_f hS 0 rfl rfl ?_); (conv => whnf); exact ⟨rfl, rfl⟩) | ((refine ldA_f hS 0 rfl rfl ?_); (conv => whnf); exact ⟨rfl, rfl⟩))) | (refine nw_f hS ?_; intro b w1 hS) | refine as_i hS ?_ | refine as_i (hS.subs (List.nil_sublist _) sb9) ?_ | refine as_i (hS.subs (List.Sublist.refl _) sb9) ?_ | refine bar_f hS ?_ | refine ld_f hS 0 rfl rfl ?_ | refine ldA_f hS 0 rfl rfl ?_ | (refine stN_f hS 0 rfl (lb9 rfl) rfl rfl ?_; (conv => whnf); intro w1 hS) | (refine stM_f hS 0 rfl (lb9 rfl) rfl ?_; (conv => whnf); intro w1 hS) | (refine drawf TB_ok rfl (by kernel_rfl) (by kernel_rfl) hS (List.Sublist.refl _) (List.Sublist.refl _) ?_; intro w1 hS) | refine br_t (by assumption) ?_ | refine br_f (by assumption) ?_)
  (conv => whnf)
  refine fc_m (raw_c _ _ p L2 hW2 _ hS.ownF (by simp [be_len]; omega)) ?_
  rintro v w3 ⟨L3, hW3, hS'⟩
  replace hS := hS.callW hS'
  repeat ((conv => whnf); first | (apply q_i; focus (intro w1 hS; (conv => whnf); first | exact ⟨rfl, rfl⟩ | ((refine ld_f hS 0 rfl rfl ?_); (conv => whnf); exact ⟨rfl, rfl⟩) | ((refine ldA_f hS 0 rfl rfl ?_); (conv => whnf); exact ⟨rfl, rfl⟩))) | (refine nw_f hS ?_; intro b w1 hS) | refine as_i hS ?_ | refine as_i (hS.subs (List.nil_sublist _) sb9) ?_ | refine as_i (hS.subs (List.Sublist.refl _) sb9) ?_ | refine bar_f hS ?_ | refine ld_f hS 0 rfl rfl ?_ | refine ldA_f hS 0 rfl rfl ?_ | (refine stN_f hS 0 rfl (lb9 rfl) rfl rfl ?_; (conv => whnf); intro w1 hS) | (refine stM_f hS 0 rfl (lb9 rfl) rfl ?_; (conv => whnf); intro w1 hS) | (refine drawf TB_ok rfl (by kernel_rfl) (by kernel_rfl) hS (List.Sublist.refl _) (List.Sublist.refl _) ?_; intro w1 hS) | refine br_t (by assumption) ?_ | refine br_f (by assumption) ?_)
  (conv => whnf)
  have h2 := hS.fr (List.Sublist.refl _)
  rw [List.append_nil] at h2
  refine ⟨L3, ?_, h2⟩
  rw [hpz] at hW3
  unfold pathT
  rw [← List.append_assoc]
  exact hW3
theorem putVec_c (bw : Nat) (bs : List UInt8) (L : LM) (hW : Wr bw bs L) (f : Nat → Int) (hf : ∀ j, j < 8 → 0 ≤ f j ∧ f j ≤ 65535) (w : World) (hS : St (keys L) w w L) (hn : bs.length ≤ 35184372088832) :
    Fc Tryz.prog 69 [.pointer (some ⟨bw, 0, none⟩), vecV f] w fun v w' => ∃ L', Wr bw (bs ++ ctxT f) L' ∧ St (keys L) w w' L' := by
  refine fc_i TB_ok Tryz.func69 rfl (by kernel_rfl) ?_
  have hS : Sf (keys L) w w (L ++ []) [] := ⟨by simpa using hS⟩
  repeat ((conv => whnf); first | (apply q_i; focus (intro w1 hS; (conv => whnf); first | exact ⟨rfl, rfl⟩ | ((refine ld_f hS 0 rfl rfl ?_); (conv => whnf); exact ⟨rfl, rfl⟩) | ((refine ldA_f hS 0 rfl rfl ?_); (conv => whnf); exact ⟨rfl, rfl⟩))) | (refine nw_f hS ?_; intro b w1 hS) | refine as_i hS ?_ | refine as_i (hS.subs (List.nil_sublist _) sb9) ?_ | refine as_i (hS.subs (List.Sublist.refl _) sb9) ?_ | refine bar_f hS ?_ | refine ld_f hS 0 rfl rfl ?_ | refine ldA_f hS 0 rfl rfl ?_ | (refine stN_f hS 0 rfl (lb9 rfl) rfl rfl ?_; (conv => whnf); intro w1 hS) | (refine stM_f hS 0 rfl (lb9 rfl) rfl ?_; (conv => whnf); intro w1 hS) | (refine drawf TB_ok rfl (by kernel_rfl) (by kernel_rfl) hS (List.Sublist.refl _) (List.Sublist.refl _) ?_; intro w1 hS) | refine br_t (by assumption) ?_ | refine br_f (by assumption) ?_)
  refine loop_i TB_ok (fun i : Nat => [(10, .int .i64 i), (4, .int .u8 (bitsN f i))]) (fun i w' => i ≤ 8 ∧ Sf (keys L) w w' (L ++ []) [_]) (fun i => 8 - i) 0 rfl ⟨Nat.zero_le _, hS⟩ ?_
  rintro i us w2 ⟨hi, hS⟩
  (conv => whnf)
  refine br_i (fun hb => ?_) (fun hb => ?_)
  · have hlt : i < 8 := by have := of_decide_eq_true hb; omega
    have hfi := hf i hlt
    have hbl := bitsN_lt f i
    repeat ((conv => whnf); first | (apply q_i; focus (intro w1 hS; (conv => whnf); first | exact ⟨rfl, rfl⟩ | ((refine ld_f hS 0 rfl rfl ?_); (conv => whnf); exact ⟨rfl, rfl⟩) | ((refine ldA_f hS 0 rfl rfl ?_); (conv => whnf); exact ⟨rfl, rfl⟩) | ((refine idxVec (f := f) hlt ?_); (conv => whnf); exact ⟨rfl, rfl⟩))) | (refine nw_f hS ?_; intro b w1 hS) | refine as_i hS ?_ | refine as_i (hS.subs (List.nil_sublist _) sb9) ?_ | refine as_i (hS.subs (List.Sublist.refl _) sb9) ?_ | refine bar_f hS ?_ | refine ld_f hS 0 rfl rfl ?_ | refine ldA_f hS 0 rfl rfl ?_ | (refine stN_f hS 0 rfl (lb9 rfl) rfl rfl ?_; (conv => whnf); intro w1 hS) | (refine stM_f hS 0 rfl (lb9 rfl) rfl ?_; (conv => whnf); intro w1 hS) | refine idxVec (f := f) hlt ?_ | (refine drawf TB_ok rfl (by kernel_rfl) (by kernel_rfl) hS (List.Sublist.refl _) (List.Sublist.refl _) ?_; intro w1 hS) | refine br_t (by assumption) ?_ | refine br_f (by assumption) ?_)
    refine br_i (fun h1 => ?_) (fun h1 => ?_)
    · have h1' : 0 < f i := of_decide_eq_true h1
      repeat ((conv => whnf); first | (apply q_i; focus (intro w1 hS; (conv => whnf); first | exact ⟨rfl, rfl⟩ | ((refine ld_f hS 0 rfl rfl ?_); (conv => whnf); exact ⟨rfl, rfl⟩) | ((refine ldA_f hS 0 rfl rfl ?_); (conv => whnf); exact ⟨rfl, rfl⟩) | ((refine .mk (by show (0 : Int) ≤ ((i : Nat) : Int); omega) ?_); (conv => whnf); exact ⟨rfl, rfl⟩))) | (refine nw_f hS ?_; intro b w1 hS) | refine as_i hS ?_ | refine as_i (hS.subs (List.nil_sublist _) sb9) ?_ | refine as_i (hS.subs (List.Sublist.refl _) sb9) ?_ | refine bar_f hS ?_ | refine ld_f hS 0 rfl rfl ?_ | refine ldA_f hS 0 rfl rfl ?_ | (refine stN_f hS 0 rfl (lb9 rfl) rfl rfl ?_; (conv => whnf); intro w1 hS) | (refine stM_f hS 0 rfl (lb9 rfl) rfl ?_; (conv => whnf); intro w1 hS) | (refine .mk (by show (0 : Int) ≤ ((i : Nat) : Int); omega) ?_) | (refine drawf TB_ok rfl (by kernel_rfl) (by kernel_rfl) hS (List.Sublist.refl _) (List.Sublist.refl _) ?_; intro w1 hS) | refine br_t (by assumption) ?_ | refine br_f (by assumption) ?_)
      refine ⟨rfl, i + 1, ?_, ⟨by omega, hS⟩, by omega⟩
      have e1 : bitsN f (i + 1) = bOr .u8 (bitsN f i) (bShl .u8 1 (i : Int)) := by rw [orBit' hbl.1 hbl.2 hlt, bitsN, if_pos h1']
      rw [wi8 hlt, e1]
      rfl
    · have h1' : ¬ 0 < f i := of_decide_eq_false h1
      repeat ((conv => whnf); first | (apply q_i; focus (intro w1 hS; (conv => whnf); first | exact ⟨rfl, rfl⟩ | ((refine ld_f hS 0 rfl rfl ?_); (conv => whnf); exact ⟨rfl, rfl⟩) | ((refine ldA_f hS 0 rfl rfl ?_); (conv => whnf); exact ⟨rfl, rfl⟩))) | (refine nw_f hS ?_; intro b w1 hS) | refine as_i hS ?_ | refine as_i (hS.subs (List.nil_sublist _) sb9) ?_ | refine as_i (hS.subs (List.Sublist.refl _) sb9) ?_ | refine bar_f hS ?_ | refine ld_f hS 0 rfl rfl ?_ | refine ldA_f hS 0 rfl rfl ?_ | (refine stN_f hS 0 rfl (lb9 rfl) rfl rfl ?_; (conv => whnf); intro w1 hS) | (refine stM_f hS 0 rfl (lb9 rfl) rfl ?_; (conv => whnf); intro w1 hS) | (refine drawf TB_ok rfl (by kernel_rfl) (by kernel_rfl) hS (List.Sublist.refl _) (List.Sublist.refl _) ?_; intro w1 hS) | refine br_t (by assumption) ?_ | refine br_f (by assumption) ?_)
      refine ⟨rfl, i + 1, ?_, ⟨by omega, hS⟩, by omega⟩
      rw [wi8 hlt, show bitsN f (i + 1) = bitsN f i from by rw [bitsN, if_neg h1']]
      rfl
  · have hge : i = 8 := by have := of_decide_eq_false hb; omega
    subst hge
    have hbl := bitsN_lt f 8
    repeat ((conv => whnf); first | (apply q_i; focus (intro w1 hS; (conv => whnf); first | exact ⟨rfl, rfl⟩ | ((refine ld_f hS 0 rfl rfl ?_); (conv => whnf); exact ⟨rfl, rfl⟩) | ((refine ldA_f hS 0 rfl rfl ?_); (conv => whnf); exact ⟨rfl, rfl⟩))) | (refine nw_f hS ?_; intro b w1 hS) | refine as_i hS ?_ | refine as_i (hS.subs (List.nil_sublist _) sb9) ?_ | refine as_i (hS.subs (List.Sublist.refl _) sb9) ?_ | refine bar_f hS ?_ | refine ld_f hS 0 rfl rfl ?_ | refine ldA_f hS 0 rfl rfl ?_ | (refine stN_f hS 0 rfl (lb9 rfl) rfl rfl ?_; (conv => whnf); intro w1 hS) | (refine stM_f hS 0 rfl (lb9 rfl) rfl ?_; (conv => whnf); intro w1 hS) | (refine drawf TB_ok rfl (by kernel_rfl) (by kernel_rfl) hS (List.Sublist.refl _) (List.Sublist.refl _) ?_; intro w1 hS) | refine br_t (by assumption) ?_ | refine br_f (by assumption) ?_)
    refine fc_m (w8_c bw bs L hW (bitsN f 8) hbl.1 (by omega) _ hS.ownF (by omega)) ?_
    rintro v w3 ⟨L1, hW1, hS'⟩
    replace hS := hS.callW hS'
    repeat ((conv => whnf); first | (apply q_i; focus (intro w1 hS; (conv => whnf); first | exact ⟨rfl, rfl⟩ | ((refine ld_f hS 0 rfl rfl ?_); (conv => whnf); exact ⟨rfl, rfl⟩) | ((refine ldA_f hS 0 rfl rfl ?_); (conv => whnf); exact ⟨rfl, rfl⟩))) | (refine nw_f hS ?_; intro b w1 hS) | refine as_i hS ?_ | refine as_i (hS.subs (List.nil_sublist _) sb9) ?_ | refine as_i (hS.subs (List.Sublist.refl _) sb9) ?_ | refine bar_f hS ?_ | refine ld_f hS 0 rfl rfl ?_ | refine ldA_f hS 0 rfl rfl ?_ | (refine stN_f hS 0 rfl (lb9 rfl) rfl rfl ?_; (conv => whnf); intro w1 hS) | (refine stM_f hS 0 rfl (lb9 rfl) rfl ?_; (conv => whnf); intro w1 hS) | (refine drawf TB_ok rfl (by kernel_rfl) (by kernel_rfl) hS (List.Sublist.refl _) (List.Sublist.refl _) ?_; intro w1 hS) | refine br_t (by assumption) ?_ | refine br_f (by assumption) ?_)
    refine loop_i TB_ok (fun i : Nat => [(25, .int .i64 i)]) (fun i w' => i ≤ 8 ∧ ∃ L', Wr bw (bs ++ be (bitsN f 8) 1 ++ num2 f i) L' ∧ Sf (keys L) w w' (L' ++ []) [_]) (fun i => 8 - i) 0 rfl ⟨Nat.zero_le _, L1, by simpa [num2] using hW1, hS⟩ ?_
    rintro i us w4 ⟨hi, L2, hW2, hS⟩
    (conv => whnf)
    refine br_i (fun hb => ?_) (fun hb => ?_)
    · have hlt : i < 8 := by have := of_decide_eq_true hb; omega
      have hfi := hf i hlt
      have hnl := num2_len f i
      have hbe := be_len (bitsN f 8) 1
      have hw16 : IntKind.u16.wrap (f i) = f i := by rw [wrap_u16_mod]; omega
      repeat ((conv => whnf); first | (apply q_i; focus (intro w1 hS; (conv => whnf); first | exact ⟨rfl, rfl⟩ | ((refine ld_f hS 0 rfl rfl ?_); (conv => whnf); exact ⟨rfl, rfl⟩) | ((refine ldA_f hS 0 rfl rfl ?_); (conv => whnf); exact ⟨rfl, rfl⟩) | ((refine idxVec (f := f) hlt ?_); (conv => whnf); exact ⟨rfl, rfl⟩))) | (refine nw_f hS ?_; intro b w1 hS) | refine as_i hS ?_ | refine as_i (hS.subs (List.nil_sublist _) sb9) ?_ | refine as_i (hS.subs (List.Sublist.refl _) sb9) ?_ | refine bar_f hS ?_ | refine ld_f hS 0 rfl rfl ?_ | refine ldA_f hS 0 rfl rfl ?_ | (refine stN_f hS 0 rfl (lb9 rfl) rfl rfl ?_; (conv => whnf); intro w1 hS) | (refine stM_f hS 0 rfl (lb9 rfl) rfl ?_; (conv => whnf); intro w1 hS) | refine idxVec (f := f) hlt ?_ | (refine drawf TB_ok rfl (by kernel_rfl) (by kernel_rfl) hS (List.Sublist.refl _) (List.Sublist.refl _) ?_; intro w1 hS) | refine br_t (by assumption) ?_ | refine br_f (by assumption) ?_)
      refine br_i (fun h1 => ?_) (fun h1 => ?_)
      · have h1' : 0 < f i := of_decide_eq_true h1
        have hw := w16_c bw _ L2 hW2 (f i) hfi.1 (by omega) w4
        rw [← hw16] at hw
        repeat ((conv => whnf); first | (apply q_i; focus (intro w1 hS; (conv => whnf); first | exact ⟨rfl, rfl⟩ | ((refine ld_f hS 0 rfl rfl ?_); (conv => whnf); exact ⟨rfl, rfl⟩) | ((refine ldA_f hS 0 rfl rfl ?_); (conv => whnf); exact ⟨rfl, rfl⟩))) | (refine nw_f hS ?_; intro b w1 hS) | refine as_i hS ?_ | refine as_i (hS.subs (List.nil_sublist _) sb9) ?_ | refine as_i (hS.subs (List.Sublist.refl _) sb9) ?_ | refine bar_f hS ?_ | refine ld_f hS 0 rfl rfl ?_ | refine ldA_f hS 0 rfl rfl ?_ | (refine stN_f hS 0 rfl (lb9 rfl) rfl rfl ?_; (conv => whnf); intro w1 hS) | (refine stM_f hS 0 rfl (lb9 rfl) rfl ?_; (conv => whnf); intro w1 hS) | (refine drawf TB_ok rfl (by kernel_rfl) (by kernel_rfl) hS (List.Sublist.refl _) (List.Sublist.refl _) ?_; intro w1 hS) | refine br_t (by assumption) ?_ | refine br_f (by assumption) ?_)
        (conv => whnf)
        refine fc_m (hw hS.ownF (by rw [List.length_append, List.length_append, hbe]; omega)) ?_
        rintro v w5 ⟨L3, hW3, hS'⟩
        rw [hw16] at hW3
        replace hS := hS.callW hS'
        repeat ((conv => whnf); first | (apply q_i; focus (intro w1 hS; (conv => whnf); first | exact ⟨rfl, rfl⟩ | ((refine ld_f hS 0 rfl rfl ?_); (conv => whnf); exact ⟨rfl, rfl⟩) | ((refine ldA_f hS 0 rfl rfl ?_); (conv => whnf); exact ⟨rfl, rfl⟩))) | (refine nw_f hS ?_; intro b w1 hS) | refine as_i hS ?_ | refine as_i (hS.subs (List.nil_sublist _) sb9) ?_ | refine as_i (hS.subs (List.Sublist.refl _) sb9) ?_ | refine bar_f hS ?_ | refine ld_f hS 0 rfl rfl ?_ | refine ldA_f hS 0 rfl rfl ?_ | (refine stN_f hS 0 rfl (lb9 rfl) rfl rfl ?_; (conv => whnf); intro w1 hS) | (refine stM_f hS 0 rfl (lb9 rfl) rfl ?_; (conv => whnf); intro w1 hS) | (refine drawf TB_ok rfl (by kernel_rfl) (by kernel_rfl) hS (List.Sublist.refl _) (List.Sublist.refl _) ?_; intro w1 hS) | refine br_t (by assumption) ?_ | refine br_f (by assumption) ?_)
        refine ⟨rfl, i + 1, ?_, ⟨by omega, L3, ?_, hS⟩, by omega⟩
        · rw [wi8 hlt]
          rfl
        · rw [num2, if_pos h1', ← List.append_assoc]
          exact hW3
      · have h1' : ¬ 0 < f i := of_decide_eq_false h1
        repeat ((conv => whnf); first | (apply q_i; focus (intro w1 hS; (conv => whnf); first | exact ⟨rfl, rfl⟩ | ((refine ld_f hS 0 rfl rfl ?_); (conv => whnf); exact ⟨rfl, rfl⟩) | ((refine ldA_f hS 0 rfl rfl ?_); (conv => whnf); exact ⟨rfl, rfl⟩))) | (refine nw_f hS ?_; intro b w1 hS) | refine as_i hS ?_ | refine as_i (hS.subs (List.nil_sublist _) sb9) ?_ | refine as_i (hS.subs (List.Sublist.refl _) sb9) ?_ | refine bar_f hS ?_ | refine ld_f hS 0 rfl rfl ?_ | refine ldA_f hS 0 rfl rfl ?_ | (refine stN_f hS 0 rfl (lb9 rfl) rfl rfl ?_; (conv => whnf); intro w1 hS) | (refine stM_f hS 0 rfl (lb9 rfl) rfl ?_; (conv => whnf); intro w1 hS) | (refine drawf TB_ok rfl (by kernel_rfl) (by kernel_rfl) hS (List.Sublist.refl _) (List.Sublist.refl _) ?_; intro w1 hS) | refine br_t (by assumption) ?_ | refine br_f (by assumption) ?_)
        refine ⟨rfl, i + 1, ?_, ⟨by omega, L2, ?_, hS⟩, by omega⟩
        · rw [wi8 hlt]
          rfl
        · rw [num2, if_neg h1']
          exact hW2
    · have hge : i = 8 := by have := of_decide_eq_false hb; omega
      subst hge
      rw [List.append_assoc] at hW2
      repeat ((conv => whnf); first | (apply q_i; focus (intro w1 hS; (conv => whnf); first | exact ⟨rfl, rfl⟩ | ((refine ld_f hS 0 rfl rfl ?_); (conv => whnf); exact ⟨rfl, rfl⟩) | ((refine ldA_f hS 0 rfl rfl ?_); (conv => whnf); exact ⟨rfl, rfl⟩))) | (refine nw_f hS ?_; intro b w1 hS) | refine as_i hS ?_ | refine as_i (hS.subs (List.nil_sublist _) sb9) ?_ | refine as_i (hS.subs (List.Sublist.refl _) sb9) ?_ | refine bar_f hS ?_ | refine ld_f hS 0 rfl rfl ?_ | refine ldA_f hS 0 rfl rfl ?_ | (refine stN_f hS 0 rfl (lb9 rfl) rfl rfl ?_; (conv => whnf); intro w1 hS) | (refine stM_f hS 0 rfl (lb9 rfl) rfl ?_; (conv => whnf); intro w1 hS) | (refine drawf TB_ok rfl (by kernel_rfl) (by kernel_rfl) hS (List.Sublist.refl _) (List.Sublist.refl _) ?_; intro w1 hS) | refine br_t (by assumption) ?_ | refine br_f (by assumption) ?_)
      (conv => whnf)
      have h2 := hS.fr (List.Sublist.refl _)
      rw [List.append_nil] at h2
      exact ⟨L2, hW2, h2⟩
theorem valT_len {v : Va} (h : okV v = true) : (vaT v).length ≤ 19 := by
  have h1 := okVB_len h
  have h2 := headT_len v.d v.n
  unfold vaT valT
  rw [List.length_append, idsT_len]
  omega
def vaV (v : Va) (A : Option Addr) (c : Nat) : Value := valV v.d v.n A v.ks.length c
theorem vaPut_c (v : Va) (ho : okVa v) (hk : okV v = true) (A : Option Addr) (c : Nat) (w : World) (hR : Rd w A (flat encU v.ks)) :
    Fc Tryz.prog 117 [vaV v A c] w fun u w' => u = .tuple #[.string (strY (vaT v)), .int .i64 0] ∧ St [] w w' [] := by
  have h1 := vaput_c v.d v.n ho.1.2 A c v.ks ho.2 w hR (by have := okVB_len hk; omega)
  rw [show okVB v.d v.n v.ks = true from hk] at h1
  exact h1
theorem putValue_c (bw : Nat) (bs : List UInt8) (L : LM) (hW : Wr bw bs L) (v : Va) (ho : okVa v) (hk : okV v = true) (A : Option Addr) (c : Nat) (w : World) (hR : ∀ w', St (keys L) w w' [] → Rd w' A (flat encU v.ks)) (hS : St (keys L) w w L) (hn : bs.length ≤ 35184372088832) :
    Fc Tryz.prog 95 [.pointer (some ⟨bw, 0, none⟩), vaV v A c] w fun u w' => ∃ L', Wr bw (bs ++ vaT v) L' ∧ St (keys L) w w' L' := by
  have hl := valT_len hk
  refine fc_i TB_ok Tryz.func95 rfl (by kernel_rfl) ?_
  have hS : Sf (keys L) w w (L ++ []) [] := ⟨by simpa using hS⟩
  repeat ((conv => whnf); first | (apply q_i; focus (intro w1 hS; (conv => whnf); first | exact ⟨rfl, rfl⟩ | ((refine ld_f hS 0 rfl rfl ?_); (conv => whnf); exact ⟨rfl, rfl⟩) | ((refine ldA_f hS 0 rfl rfl ?_); (conv => whnf); exact ⟨rfl, rfl⟩) | ((refine fc_m (vaPut_c v ho hk A c _ (hR _ hS.nil)) ?_; rintro v w3 ⟨rfl, hS'⟩; replace hS := hS.call0 hS'); (conv => whnf); exact ⟨rfl, rfl⟩))) | (refine nw_f hS ?_; intro b w1 hS) | refine as_i hS ?_ | refine as_i (hS.subs (List.nil_sublist _) sb9) ?_ | refine as_i (hS.subs (List.Sublist.refl _) sb9) ?_ | refine bar_f hS ?_ | refine ld_f hS 0 rfl rfl ?_ | refine ldA_f hS 0 rfl rfl ?_ | (refine stN_f hS 0 rfl (lb9 rfl) rfl rfl ?_; (conv => whnf); intro w1 hS) | (refine stM_f hS 0 rfl (lb9 rfl) rfl ?_; (conv => whnf); intro w1 hS) | (refine fc_m (vaPut_c v ho hk A c _ (hR _ hS.nil)) ?_; rintro v w3 ⟨rfl, hS'⟩; replace hS := hS.call0 hS') | (refine drawf TB_ok rfl (by kernel_rfl) (by kernel_rfl) hS (List.Sublist.refl _) (List.Sublist.refl _) ?_; intro w1 hS) | refine br_t (by assumption) ?_ | refine br_f (by assumption) ?_)
  (conv => whnf)
  refine fc_m (raw_c _ _ (vaT v) L hW _ hS.ownF (by omega)) ?_
  rintro u w3 ⟨L3, hW3, hS'⟩
  replace hS := hS.callW hS'
  repeat ((conv => whnf); first | (apply q_i; focus (intro w1 hS; (conv => whnf); first | exact ⟨rfl, rfl⟩ | ((refine ld_f hS 0 rfl rfl ?_); (conv => whnf); exact ⟨rfl, rfl⟩) | ((refine ldA_f hS 0 rfl rfl ?_); (conv => whnf); exact ⟨rfl, rfl⟩))) | (refine nw_f hS ?_; intro b w1 hS) | refine as_i hS ?_ | refine as_i (hS.subs (List.nil_sublist _) sb9) ?_ | refine as_i (hS.subs (List.Sublist.refl _) sb9) ?_ | refine bar_f hS ?_ | refine ld_f hS 0 rfl rfl ?_ | refine ldA_f hS 0 rfl rfl ?_ | (refine stN_f hS 0 rfl (lb9 rfl) rfl rfl ?_; (conv => whnf); intro w1 hS) | (refine stM_f hS 0 rfl (lb9 rfl) rfl ?_; (conv => whnf); intro w1 hS) | (refine drawf TB_ok rfl (by kernel_rfl) (by kernel_rfl) hS (List.Sublist.refl _) (List.Sublist.refl _) ?_; intro w1 hS) | refine br_t (by assumption) ?_ | refine br_f (by assumption) ?_)
  (conv => whnf)
  have h2 := hS.fr (List.Sublist.refl _)
  rw [List.append_nil] at h2
  exact ⟨L3, hW3, h2⟩
theorem allM_c (f : Nat → Int) (A : Option Addr) (l c : Nat) (w : World) :
    Fc Tryz.prog 94 [regV f A l c] w fun v w' => ∃ bx, v = .func (.func 116) #[] #[.pointer (some ⟨bx, 0, none⟩)] ∧
      St [] w w' [(bx, .cells (vecF f ++ [Value.slice A l c]).toArray 40 (0, 0))] := by
  refine fc_i TB_ok Tryz.func94 rfl (by kernel_rfl) ?_
  have hS := Sf.refl w
  repeat ((conv => whnf); first | (apply q_i; focus (intro w1 hS; (conv => whnf); first | exact ⟨rfl, rfl⟩ | ((refine ld_f hS 0 rfl rfl ?_); (conv => whnf); exact ⟨rfl, rfl⟩) | ((refine ldA_f hS 0 rfl rfl ?_); (conv => whnf); exact ⟨rfl, rfl⟩))) | (refine nw_f hS ?_; intro b w1 hS) | refine as_i hS ?_ | refine as_i (hS.subs (List.nil_sublist _) sb9) ?_ | refine as_i (hS.subs (List.Sublist.refl _) sb9) ?_ | refine bar_f hS ?_ | refine ld_f hS 0 rfl rfl ?_ | refine ldA_f hS 0 rfl rfl ?_ | (refine stN_f hS 0 rfl (lb9 rfl) rfl rfl ?_; (conv => whnf); intro w1 hS) | (refine stM_f hS 0 rfl (lb9 rfl) rfl ?_; (conv => whnf); intro w1 hS) | (refine drawf TB_ok rfl (by kernel_rfl) (by kernel_rfl) hS (List.Sublist.refl _) (List.Sublist.refl _) ?_; intro w1 hS) | refine br_t (by assumption) ?_ | refine br_f (by assumption) ?_)
  exact ⟨_, rfl, hS.sub (List.Sublist.refl _)⟩
theorem sbT_len {s : Sv} (h : okV s.v = true) : (sbT s).length ≤ 22 := by
  have := valT_len h
  unfold sbT
  simp only [List.length_append, be_len]
  omega
theorem sbsT_snoc (xs : List Sv) {i : Nat} (h : i < xs.length) : sbsT (xs.take (i + 1)) = sbsT (xs.take i) ++ sbT xs[i] := by
  unfold sbsT
  rw [List.take_succ_eq_append_getElem h, List.flatMap_append]
  simp
theorem sbsT_len : ∀ (xs : List Sv), (∀ s ∈ xs, okV s.v = true) → (sbsT xs).length ≤ 22 * xs.length
  | [], _ => Nat.le_refl _
  | x :: xs, h => by
    have ih := sbsT_len xs (fun y hy => h y (by simp [hy]))
    have h1 := sbT_len (h x (by simp))
    show (sbT x ++ sbsT xs).length ≤ _
    rw [List.length_append, List.length_cons]
    omega
set_option maxHeartbeats 4000000 in
theorem putReg_c (bw : Nat) (bs : List UInt8) (L : LM) (hW : Wr bw bs L) (f : Nat → Int) (hf : ∀ j, j < 8 → 0 ≤ f j ∧ f j ≤ 65535) (A : Option Addr) (c : Nat) (ms : List Sm) (hl : ms.length ≤ 8) (hx : ∀ m ∈ ms, okSv m.s ∧ okV m.s.v = true ∧ m.s.n ≤ 65535)
    (w : World) (hR : ∀ w', St (keys L) w w' [] → RdM w' A ms) (hS : St (keys L) w w L) (hn : bs.length ≤ 17592186044416) :
    Fc Tryz.prog 66 [.pointer (some ⟨bw, 0, none⟩), regV f A ms.length c] w fun u w' => ∃ L', Wr bw (bs ++ (ctxT f ++ be ms.length 1 ++ sbsT (ms.map Sm.s))) L' ∧ St (keys L) w w' L' := by
  have hcl := ctxT_len f
  have hR0 := hR w hS.nil
  refine fc_i TB_ok Tryz.func66 rfl (by kernel_rfl) ?_
  have hS : Sf (keys L) w w (L ++ []) [] := ⟨by simpa using hS⟩
  repeat ((conv => whnf); first | (apply q_i; focus (intro w1 hS; (conv => whnf); first | exact ⟨rfl, rfl⟩ | ((refine ld_f hS 0 rfl rfl ?_); (conv => whnf); exact ⟨rfl, rfl⟩) | ((refine ld_f hS 1 rfl rfl ?_); (conv => whnf); exact ⟨rfl, rfl⟩) | ((refine ldA_f hS 0 rfl rfl ?_); (conv => whnf); exact ⟨rfl, rfl⟩) | ((refine ldA_f hS 1 rfl rfl ?_); (conv => whnf); exact ⟨rfl, rfl⟩) | ((refine ldN_f hS 0 rfl (lb9 rfl) ?_); (conv => whnf); exact ⟨rfl, rfl⟩) | ((refine ldN_f hS 1 rfl (lb9 rfl) ?_); (conv => whnf); exact ⟨rfl, rfl⟩))) | (refine nw_f hS ?_; intro b w1 hS) | refine as_i hS ?_ | refine as_i (hS.subs (List.nil_sublist _) sb9) ?_ | refine as_i (hS.subs (List.Sublist.refl _) sb9) ?_ | refine bar_f hS ?_ | refine ld_f hS 0 rfl rfl ?_ | refine ld_f hS 1 rfl rfl ?_ | refine ldA_f hS 0 rfl rfl ?_ | refine ldA_f hS 1 rfl rfl ?_ | (refine stN_f hS 0 rfl (lb9 rfl) rfl rfl ?_; (conv => whnf); intro w1 hS) | (refine stN_f hS 1 rfl (lb9 rfl) rfl rfl ?_; (conv => whnf); intro w1 hS) | (refine stM_f hS 0 rfl (lb9 rfl) rfl ?_; (conv => whnf); intro w1 hS) | (refine stM_f hS 1 rfl (lb9 rfl) rfl ?_; (conv => whnf); intro w1 hS) | refine ldN_f hS 0 rfl (lb9 rfl) ?_ | refine ldN_f hS 1 rfl (lb9 rfl) ?_ | (refine drawf TB_ok rfl (by kernel_rfl) (by kernel_rfl) hS (List.Sublist.refl _) (List.Sublist.refl _) ?_; intro w1 hS) | refine br_t (by assumption) ?_ | refine br_f (by assumption) ?_)
  (conv => whnf)
  refine fc_m (putVec_c _ _ L hW f hf _ hS.ownF (by omega)) ?_
  rintro v w4 ⟨L4, hW4, hS'⟩
  replace hS := hS.callW hS'
  repeat ((conv => whnf); first | (apply q_i; focus (intro w1 hS; (conv => whnf); first | exact ⟨rfl, rfl⟩ | ((refine ld_f hS 0 rfl rfl ?_); (conv => whnf); exact ⟨rfl, rfl⟩) | ((refine ld_f hS 1 rfl rfl ?_); (conv => whnf); exact ⟨rfl, rfl⟩) | ((refine ldA_f hS 0 rfl rfl ?_); (conv => whnf); exact ⟨rfl, rfl⟩) | ((refine ldA_f hS 1 rfl rfl ?_); (conv => whnf); exact ⟨rfl, rfl⟩))) | (refine nw_f hS ?_; intro b w1 hS) | refine as_i hS ?_ | refine as_i (hS.subs (List.nil_sublist _) sb9) ?_ | refine as_i (hS.subs (List.Sublist.refl _) sb9) ?_ | refine bar_f hS ?_ | refine ld_f hS 0 rfl rfl ?_ | refine ld_f hS 1 rfl rfl ?_ | refine ldA_f hS 0 rfl rfl ?_ | refine ldA_f hS 1 rfl rfl ?_ | (refine stN_f hS 0 rfl (lb9 rfl) rfl rfl ?_; (conv => whnf); intro w1 hS) | (refine stN_f hS 1 rfl (lb9 rfl) rfl rfl ?_; (conv => whnf); intro w1 hS) | (refine stM_f hS 0 rfl (lb9 rfl) rfl ?_; (conv => whnf); intro w1 hS) | (refine stM_f hS 1 rfl (lb9 rfl) rfl ?_; (conv => whnf); intro w1 hS) | (refine drawf TB_ok rfl (by kernel_rfl) (by kernel_rfl) hS (List.Sublist.refl _) (List.Sublist.refl _) ?_; intro w1 hS) | refine br_t (by assumption) ?_ | refine br_f (by assumption) ?_)
  (conv => whnf)
  refine fc_m (w8u_c _ _ L4 hW4 _ (by omega) (by omega) _ hS.ownF (by rw [List.length_append]; omega)) ?_
  rintro v w5 ⟨L5, hW5, hS'⟩
  replace hS := hS.callW hS'
  generalize hpre : bs ++ ctxT f ++ be (ms.length : Int) 1 = pre at hW5
  have hprl : pre.length ≤ bs.length + 18 := by rw [← hpre]; simp [be_len]; omega
  repeat ((conv => whnf); first | (apply q_i; focus (intro w1 hS; (conv => whnf); first | exact ⟨rfl, rfl⟩ | ((refine ld_f hS 0 rfl rfl ?_); (conv => whnf); exact ⟨rfl, rfl⟩) | ((refine ld_f hS 1 rfl rfl ?_); (conv => whnf); exact ⟨rfl, rfl⟩) | ((refine ldA_f hS 0 rfl rfl ?_); (conv => whnf); exact ⟨rfl, rfl⟩) | ((refine ldA_f hS 1 rfl rfl ?_); (conv => whnf); exact ⟨rfl, rfl⟩) | ((refine ldN_f hS 0 rfl (lb9 rfl) ?_); (conv => whnf); exact ⟨rfl, rfl⟩) | ((refine ldN_f hS 1 rfl (lb9 rfl) ?_); (conv => whnf); exact ⟨rfl, rfl⟩))) | (refine nw_f hS ?_; intro b w1 hS) | refine as_i hS ?_ | refine as_i (hS.subs (List.nil_sublist _) sb9) ?_ | refine as_i (hS.subs (List.Sublist.refl _) sb9) ?_ | refine bar_f hS ?_ | refine ld_f hS 0 rfl rfl ?_ | refine ld_f hS 1 rfl rfl ?_ | refine ldA_f hS 0 rfl rfl ?_ | refine ldA_f hS 1 rfl rfl ?_ | (refine stN_f hS 0 rfl (lb9 rfl) rfl rfl ?_; (conv => whnf); intro w1 hS) | (refine stN_f hS 1 rfl (lb9 rfl) rfl rfl ?_; (conv => whnf); intro w1 hS) | (refine stM_f hS 0 rfl (lb9 rfl) rfl ?_; (conv => whnf); intro w1 hS) | (refine stM_f hS 1 rfl (lb9 rfl) rfl ?_; (conv => whnf); intro w1 hS) | refine ldN_f hS 0 rfl (lb9 rfl) ?_ | refine ldN_f hS 1 rfl (lb9 rfl) ?_ | (refine drawf TB_ok rfl (by kernel_rfl) (by kernel_rfl) hS (List.Sublist.refl _) (List.Sublist.refl _) ?_; intro w1 hS) | refine br_t (by assumption) ?_ | refine br_f (by assumption) ?_)
  (conv => whnf)
  refine fc_m (allM_c f A ms.length c _) ?_
  rintro v w6 ⟨bx, rfl, hS'⟩
  replace hS := hS.call' hS'
  replace hS : Sf (keys L) w w6 (L5 ++ []) [_, _, _] := hS
  repeat ((conv => whnf); first | (apply q_i; focus (intro w1 hS; (conv => whnf); first | exact ⟨rfl, rfl⟩ | ((refine ld_f hS 0 rfl rfl ?_); (conv => whnf); exact ⟨rfl, rfl⟩) | ((refine ld_f hS 1 rfl rfl ?_); (conv => whnf); exact ⟨rfl, rfl⟩) | ((refine ld_f hS 2 rfl rfl ?_); (conv => whnf); exact ⟨rfl, rfl⟩) | ((refine ldA_f hS 0 rfl rfl ?_); (conv => whnf); exact ⟨rfl, rfl⟩) | ((refine ldA_f hS 1 rfl rfl ?_); (conv => whnf); exact ⟨rfl, rfl⟩) | ((refine ldA_f hS 2 rfl rfl ?_); (conv => whnf); exact ⟨rfl, rfl⟩))) | (refine nw_f hS ?_; intro b w1 hS) | refine as_i hS ?_ | refine as_i (hS.subs (List.nil_sublist _) sb9) ?_ | refine as_i (hS.subs (List.Sublist.refl _) sb9) ?_ | refine bar_f hS ?_ | refine ld_f hS 0 rfl rfl ?_ | refine ld_f hS 1 rfl rfl ?_ | refine ld_f hS 2 rfl rfl ?_ | refine ldA_f hS 0 rfl rfl ?_ | refine ldA_f hS 1 rfl rfl ?_ | refine ldA_f hS 2 rfl rfl ?_ | (refine stN_f hS 0 rfl (lb9 rfl) rfl rfl ?_; (conv => whnf); intro w1 hS) | (refine stN_f hS 1 rfl (lb9 rfl) rfl rfl ?_; (conv => whnf); intro w1 hS) | (refine stN_f hS 2 rfl (lb9 rfl) rfl rfl ?_; (conv => whnf); intro w1 hS) | (refine stM_f hS 0 rfl (lb9 rfl) rfl ?_; (conv => whnf); intro w1 hS) | (refine stM_f hS 1 rfl (lb9 rfl) rfl ?_; (conv => whnf); intro w1 hS) | (refine stM_f hS 2 rfl (lb9 rfl) rfl ?_; (conv => whnf); intro w1 hS) | (refine drawf TB_ok rfl (by kernel_rfl) (by kernel_rfl) hS (List.Sublist.refl _) (List.Sublist.refl _) ?_; intro w1 hS) | refine br_t (by assumption) ?_ | refine br_f (by assumption) ?_)
  refine range_i rfl Tryz.func116 rfl (by kernel_rfl) hS ?_
  intro fi2 bd l w7 hS
  refine fc_i TB_ok Tryz.func116 rfl (by kernel_rfl) ?_
  repeat ((conv => whnf); first | (apply q_i; focus (intro w1 hS; (conv => whnf); first | exact ⟨rfl, rfl⟩ | ((refine ld_f hS 0 rfl rfl ?_); (conv => whnf); exact ⟨rfl, rfl⟩) | ((refine ld_f hS 1 rfl rfl ?_); (conv => whnf); exact ⟨rfl, rfl⟩) | ((refine ld_f hS 2 rfl rfl ?_); (conv => whnf); exact ⟨rfl, rfl⟩) | ((refine ld_f hS 3 rfl rfl ?_); (conv => whnf); exact ⟨rfl, rfl⟩) | ((refine ld_f hS 4 rfl rfl ?_); (conv => whnf); exact ⟨rfl, rfl⟩) | ((refine ldA_f hS 0 rfl rfl ?_); (conv => whnf); exact ⟨rfl, rfl⟩) | ((refine ldA_f hS 1 rfl rfl ?_); (conv => whnf); exact ⟨rfl, rfl⟩) | ((refine ldA_f hS 2 rfl rfl ?_); (conv => whnf); exact ⟨rfl, rfl⟩) | ((refine ldA_f hS 3 rfl rfl ?_); (conv => whnf); exact ⟨rfl, rfl⟩) | ((refine ldA_f hS 4 rfl rfl ?_); (conv => whnf); exact ⟨rfl, rfl⟩))) | (refine nw_f hS ?_; intro b w1 hS) | refine as_i hS ?_ | refine as_i (hS.subs (List.nil_sublist _) sb9) ?_ | refine as_i (hS.subs (List.Sublist.refl _) sb9) ?_ | refine bar_f hS ?_ | refine ld_f hS 0 rfl rfl ?_ | refine ld_f hS 1 rfl rfl ?_ | refine ld_f hS 2 rfl rfl ?_ | refine ld_f hS 3 rfl rfl ?_ | refine ld_f hS 4 rfl rfl ?_ | refine ldA_f hS 0 rfl rfl ?_ | refine ldA_f hS 1 rfl rfl ?_ | refine ldA_f hS 2 rfl rfl ?_ | refine ldA_f hS 3 rfl rfl ?_ | refine ldA_f hS 4 rfl rfl ?_ | (refine stN_f hS 0 rfl (lb9 rfl) rfl rfl ?_; (conv => whnf); intro w1 hS) | (refine stN_f hS 1 rfl (lb9 rfl) rfl rfl ?_; (conv => whnf); intro w1 hS) | (refine stN_f hS 2 rfl (lb9 rfl) rfl rfl ?_; (conv => whnf); intro w1 hS) | (refine stN_f hS 3 rfl (lb9 rfl) rfl rfl ?_; (conv => whnf); intro w1 hS) | (refine stN_f hS 4 rfl (lb9 rfl) rfl rfl ?_; (conv => whnf); intro w1 hS) | (refine stM_f hS 0 rfl (lb9 rfl) rfl ?_; (conv => whnf); intro w1 hS) | (refine stM_f hS 1 rfl (lb9 rfl) rfl ?_; (conv => whnf); intro w1 hS) | (refine stM_f hS 2 rfl (lb9 rfl) rfl ?_; (conv => whnf); intro w1 hS) | (refine stM_f hS 3 rfl (lb9 rfl) rfl ?_; (conv => whnf); intro w1 hS) | (refine stM_f hS 4 rfl (lb9 rfl) rfl ?_; (conv => whnf); intro w1 hS) | (refine drawf TB_ok rfl (by kernel_rfl) (by kernel_rfl) hS (List.Sublist.refl _) (List.Sublist.refl _) ?_; intro w1 hS) | refine br_t (by assumption) ?_ | refine br_f (by assumption) ?_)
  refine loop_i TB_ok (fun i : Nat => [(8, .int .i64 i)]) (fun i w' => i ≤ ms.length ∧ ∃ L', Wr bw (pre ++ sbsT ((ms.map Sm.s).take i)) L' ∧ Sf (keys L) w w' (L' ++ []) [_, _, _, _, _]) (fun i => ms.length - i) 0 rfl ⟨Nat.zero_le _, L5, by simpa [sbsT] using hW5, hS⟩ ?_
  rintro i us w8 ⟨hi, L6, hW6, hS⟩
  (conv => whnf)
  refine br_i (fun hb => ?_) (fun hb => ?_)
  · have hlt : i < ms.length := by have := of_decide_eq_true hb; omega
    obtain ⟨x0, off, rfl⟩ := hR0.rd.form (flat_ne encM_len (by omega) hlt)
    have hxi := hx ms[i] (List.getElem_mem hlt)
    have hbl := sbsT_len ((ms.map Sm.s).take i) (fun s hs => by
      obtain ⟨m, hm, rfl⟩ := List.mem_map.1 (List.mem_of_mem_take hs)
      exact (hx m hm).2.1)
    rw [List.length_take, List.length_map] at hbl
    have hcl2 := sbT_len hxi.2.1
    have hu : IntKind.u16.wrap ms[i].s.n = ms[i].s.n := by rw [wrap_u16_mod]; have := hxi.1.2.1; have := hxi.2.2; omega
    repeat ((conv => whnf); first | (apply q_i; focus (intro w1 hS; (conv => whnf); first | exact ⟨rfl, rfl⟩ | ((refine ld_f hS 0 rfl rfl ?_); (conv => whnf); exact ⟨rfl, rfl⟩) | ((refine ld_f hS 1 rfl rfl ?_); (conv => whnf); exact ⟨rfl, rfl⟩) | ((refine ld_f hS 2 rfl rfl ?_); (conv => whnf); exact ⟨rfl, rfl⟩) | ((refine ld_f hS 3 rfl rfl ?_); (conv => whnf); exact ⟨rfl, rfl⟩) | ((refine ld_f hS 4 rfl rfl ?_); (conv => whnf); exact ⟨rfl, rfl⟩) | ((refine ldA_f hS 0 rfl rfl ?_); (conv => whnf); exact ⟨rfl, rfl⟩) | ((refine ldA_f hS 1 rfl rfl ?_); (conv => whnf); exact ⟨rfl, rfl⟩) | ((refine ldA_f hS 2 rfl rfl ?_); (conv => whnf); exact ⟨rfl, rfl⟩) | ((refine ldA_f hS 3 rfl rfl ?_); (conv => whnf); exact ⟨rfl, rfl⟩) | ((refine ldA_f hS 4 rfl rfl ?_); (conv => whnf); exact ⟨rfl, rfl⟩) | ((refine .mk ⟨by omega, by omega⟩ ?_; refine ix_i rfl ?_); (conv => whnf); exact ⟨rfl, rfl⟩) | ((refine ldN_el encM_len (hR _ hS.nil).rd.at (i := i) hlt rfl rfl ?_); (conv => whnf); exact ⟨rfl, rfl⟩) | ((refine ldN_f hS 0 rfl (lb9 rfl) ?_); (conv => whnf); exact ⟨rfl, rfl⟩))) | (refine nw_f hS ?_; intro b w1 hS) | refine as_i hS ?_ | refine as_i (hS.subs (List.nil_sublist _) sb9) ?_ | refine as_i (hS.subs (List.Sublist.refl _) sb9) ?_ | refine bar_f hS ?_ | refine ld_f hS 0 rfl rfl ?_ | refine ld_f hS 1 rfl rfl ?_ | refine ld_f hS 2 rfl rfl ?_ | refine ld_f hS 3 rfl rfl ?_ | refine ld_f hS 4 rfl rfl ?_ | refine ldA_f hS 0 rfl rfl ?_ | refine ldA_f hS 1 rfl rfl ?_ | refine ldA_f hS 2 rfl rfl ?_ | refine ldA_f hS 3 rfl rfl ?_ | refine ldA_f hS 4 rfl rfl ?_ | (refine stN_f hS 0 rfl (lb9 rfl) rfl rfl ?_; (conv => whnf); intro w1 hS) | (refine stN_f hS 1 rfl (lb9 rfl) rfl rfl ?_; (conv => whnf); intro w1 hS) | (refine stN_f hS 2 rfl (lb9 rfl) rfl rfl ?_; (conv => whnf); intro w1 hS) | (refine stN_f hS 3 rfl (lb9 rfl) rfl rfl ?_; (conv => whnf); intro w1 hS) | (refine stN_f hS 4 rfl (lb9 rfl) rfl rfl ?_; (conv => whnf); intro w1 hS) | (refine stM_f hS 0 rfl (lb9 rfl) rfl ?_; (conv => whnf); intro w1 hS) | (refine stM_f hS 1 rfl (lb9 rfl) rfl ?_; (conv => whnf); intro w1 hS) | (refine stM_f hS 2 rfl (lb9 rfl) rfl ?_; (conv => whnf); intro w1 hS) | (refine stM_f hS 3 rfl (lb9 rfl) rfl ?_; (conv => whnf); intro w1 hS) | (refine stM_f hS 4 rfl (lb9 rfl) rfl ?_; (conv => whnf); intro w1 hS) | (refine .mk ⟨by omega, by omega⟩ ?_; refine ix_i rfl ?_) | refine ldN_el encM_len (hR _ hS.nil).rd.at (i := i) hlt rfl rfl ?_ | refine ldN_f hS 0 rfl (lb9 rfl) ?_ | (refine drawf TB_ok rfl (by kernel_rfl) (by kernel_rfl) hS (List.Sublist.refl _) (List.Sublist.refl _) ?_; intro w1 hS) | refine br_t (by assumption) ?_ | refine br_f (by assumption) ?_)
    refine yield2_i TB_ok (hS.obj 1 rfl) rfl ?_
    repeat ((conv => whnf); first | (apply q_i; focus (intro w1 hS; (conv => whnf); first | exact ⟨rfl, rfl⟩ | ((refine ld_f hS 0 rfl rfl ?_); (conv => whnf); exact ⟨rfl, rfl⟩) | ((refine ld_f hS 1 rfl rfl ?_); (conv => whnf); exact ⟨rfl, rfl⟩) | ((refine ld_f hS 2 rfl rfl ?_); (conv => whnf); exact ⟨rfl, rfl⟩) | ((refine ld_f hS 3 rfl rfl ?_); (conv => whnf); exact ⟨rfl, rfl⟩) | ((refine ld_f hS 4 rfl rfl ?_); (conv => whnf); exact ⟨rfl, rfl⟩) | ((refine ld_f hS 5 rfl rfl ?_); (conv => whnf); exact ⟨rfl, rfl⟩) | ((refine ld_f hS 6 rfl rfl ?_); (conv => whnf); exact ⟨rfl, rfl⟩) | ((refine ldA_f hS 0 rfl rfl ?_); (conv => whnf); exact ⟨rfl, rfl⟩) | ((refine ldA_f hS 1 rfl rfl ?_); (conv => whnf); exact ⟨rfl, rfl⟩) | ((refine ldA_f hS 2 rfl rfl ?_); (conv => whnf); exact ⟨rfl, rfl⟩) | ((refine ldA_f hS 3 rfl rfl ?_); (conv => whnf); exact ⟨rfl, rfl⟩) | ((refine ldA_f hS 4 rfl rfl ?_); (conv => whnf); exact ⟨rfl, rfl⟩) | ((refine ldA_f hS 5 rfl rfl ?_); (conv => whnf); exact ⟨rfl, rfl⟩) | ((refine ldA_f hS 6 rfl rfl ?_); (conv => whnf); exact ⟨rfl, rfl⟩))) | (refine nw_f hS ?_; intro b w1 hS) | refine as_i hS ?_ | refine as_i (hS.subs (List.nil_sublist _) sb9) ?_ | refine as_i (hS.subs (List.Sublist.refl _) sb9) ?_ | refine bar_f hS ?_ | refine ld_f hS 0 rfl rfl ?_ | refine ld_f hS 1 rfl rfl ?_ | refine ld_f hS 2 rfl rfl ?_ | refine ld_f hS 3 rfl rfl ?_ | refine ld_f hS 4 rfl rfl ?_ | refine ld_f hS 5 rfl rfl ?_ | refine ld_f hS 6 rfl rfl ?_ | refine ldA_f hS 0 rfl rfl ?_ | refine ldA_f hS 1 rfl rfl ?_ | refine ldA_f hS 2 rfl rfl ?_ | refine ldA_f hS 3 rfl rfl ?_ | refine ldA_f hS 4 rfl rfl ?_ | refine ldA_f hS 5 rfl rfl ?_ | refine ldA_f hS 6 rfl rfl ?_ | (refine stN_f hS 0 rfl (lb9 rfl) rfl rfl ?_; (conv => whnf); intro w1 hS) | (refine stN_f hS 1 rfl (lb9 rfl) rfl rfl ?_; (conv => whnf); intro w1 hS) | (refine stN_f hS 2 rfl (lb9 rfl) rfl rfl ?_; (conv => whnf); intro w1 hS) | (refine stN_f hS 3 rfl (lb9 rfl) rfl rfl ?_; (conv => whnf); intro w1 hS) | (refine stN_f hS 4 rfl (lb9 rfl) rfl rfl ?_; (conv => whnf); intro w1 hS) | (refine stN_f hS 5 rfl (lb9 rfl) rfl rfl ?_; (conv => whnf); intro w1 hS) | (refine stN_f hS 6 rfl (lb9 rfl) rfl rfl ?_; (conv => whnf); intro w1 hS) | (refine stM_f hS 0 rfl (lb9 rfl) rfl ?_; (conv => whnf); intro w1 hS) | (refine stM_f hS 1 rfl (lb9 rfl) rfl ?_; (conv => whnf); intro w1 hS) | (refine stM_f hS 2 rfl (lb9 rfl) rfl ?_; (conv => whnf); intro w1 hS) | (refine stM_f hS 3 rfl (lb9 rfl) rfl ?_; (conv => whnf); intro w1 hS) | (refine stM_f hS 4 rfl (lb9 rfl) rfl ?_; (conv => whnf); intro w1 hS) | (refine stM_f hS 5 rfl (lb9 rfl) rfl ?_; (conv => whnf); intro w1 hS) | (refine stM_f hS 6 rfl (lb9 rfl) rfl ?_; (conv => whnf); intro w1 hS) | (refine drawf TB_ok rfl (by kernel_rfl) (by kernel_rfl) hS (List.Sublist.refl _) (List.Sublist.refl _) ?_; intro w1 hS) | refine br_t (by assumption) ?_ | refine br_f (by assumption) ?_)
    refine begin_f hS 3 rfl rfl ?_
    (conv => whnf)
    intro w9 hS
    repeat ((conv => whnf); first | (apply q_i; focus (intro w1 hS; (conv => whnf); first | exact ⟨rfl, rfl⟩ | ((refine ld_f hS 0 rfl rfl ?_); (conv => whnf); exact ⟨rfl, rfl⟩) | ((refine ld_f hS 1 rfl rfl ?_); (conv => whnf); exact ⟨rfl, rfl⟩) | ((refine ld_f hS 2 rfl rfl ?_); (conv => whnf); exact ⟨rfl, rfl⟩) | ((refine ld_f hS 3 rfl rfl ?_); (conv => whnf); exact ⟨rfl, rfl⟩) | ((refine ld_f hS 4 rfl rfl ?_); (conv => whnf); exact ⟨rfl, rfl⟩) | ((refine ld_f hS 5 rfl rfl ?_); (conv => whnf); exact ⟨rfl, rfl⟩) | ((refine ld_f hS 6 rfl rfl ?_); (conv => whnf); exact ⟨rfl, rfl⟩) | ((refine ld_f hS 7 rfl rfl ?_); (conv => whnf); exact ⟨rfl, rfl⟩) | ((refine ldA_f hS 0 rfl rfl ?_); (conv => whnf); exact ⟨rfl, rfl⟩) | ((refine ldA_f hS 1 rfl rfl ?_); (conv => whnf); exact ⟨rfl, rfl⟩) | ((refine ldA_f hS 2 rfl rfl ?_); (conv => whnf); exact ⟨rfl, rfl⟩) | ((refine ldA_f hS 3 rfl rfl ?_); (conv => whnf); exact ⟨rfl, rfl⟩) | ((refine ldA_f hS 4 rfl rfl ?_); (conv => whnf); exact ⟨rfl, rfl⟩) | ((refine ldA_f hS 5 rfl rfl ?_); (conv => whnf); exact ⟨rfl, rfl⟩) | ((refine ldA_f hS 6 rfl rfl ?_); (conv => whnf); exact ⟨rfl, rfl⟩) | ((refine ldA_f hS 7 rfl rfl ?_); (conv => whnf); exact ⟨rfl, rfl⟩))) | (refine nw_f hS ?_; intro b w1 hS) | refine as_i hS ?_ | refine as_i (hS.subs (List.nil_sublist _) sb9) ?_ | refine as_i (hS.subs (List.Sublist.refl _) sb9) ?_ | refine bar_f hS ?_ | refine ld_f hS 0 rfl rfl ?_ | refine ld_f hS 1 rfl rfl ?_ | refine ld_f hS 2 rfl rfl ?_ | refine ld_f hS 3 rfl rfl ?_ | refine ld_f hS 4 rfl rfl ?_ | refine ld_f hS 5 rfl rfl ?_ | refine ld_f hS 6 rfl rfl ?_ | refine ld_f hS 7 rfl rfl ?_ | refine ldA_f hS 0 rfl rfl ?_ | refine ldA_f hS 1 rfl rfl ?_ | refine ldA_f hS 2 rfl rfl ?_ | refine ldA_f hS 3 rfl rfl ?_ | refine ldA_f hS 4 rfl rfl ?_ | refine ldA_f hS 5 rfl rfl ?_ | refine ldA_f hS 6 rfl rfl ?_ | refine ldA_f hS 7 rfl rfl ?_ | (refine stN_f hS 0 rfl (lb9 rfl) rfl rfl ?_; (conv => whnf); intro w1 hS) | (refine stN_f hS 1 rfl (lb9 rfl) rfl rfl ?_; (conv => whnf); intro w1 hS) | (refine stN_f hS 2 rfl (lb9 rfl) rfl rfl ?_; (conv => whnf); intro w1 hS) | (refine stN_f hS 3 rfl (lb9 rfl) rfl rfl ?_; (conv => whnf); intro w1 hS) | (refine stN_f hS 4 rfl (lb9 rfl) rfl rfl ?_; (conv => whnf); intro w1 hS) | (refine stN_f hS 5 rfl (lb9 rfl) rfl rfl ?_; (conv => whnf); intro w1 hS) | (refine stN_f hS 6 rfl (lb9 rfl) rfl rfl ?_; (conv => whnf); intro w1 hS) | (refine stN_f hS 7 rfl (lb9 rfl) rfl rfl ?_; (conv => whnf); intro w1 hS) | (refine stM_f hS 0 rfl (lb9 rfl) rfl ?_; (conv => whnf); intro w1 hS) | (refine stM_f hS 1 rfl (lb9 rfl) rfl ?_; (conv => whnf); intro w1 hS) | (refine stM_f hS 2 rfl (lb9 rfl) rfl ?_; (conv => whnf); intro w1 hS) | (refine stM_f hS 3 rfl (lb9 rfl) rfl ?_; (conv => whnf); intro w1 hS) | (refine stM_f hS 4 rfl (lb9 rfl) rfl ?_; (conv => whnf); intro w1 hS) | (refine stM_f hS 5 rfl (lb9 rfl) rfl ?_; (conv => whnf); intro w1 hS) | (refine stM_f hS 6 rfl (lb9 rfl) rfl ?_; (conv => whnf); intro w1 hS) | (refine stM_f hS 7 rfl (lb9 rfl) rfl ?_; (conv => whnf); intro w1 hS) | (refine drawf TB_ok rfl (by kernel_rfl) (by kernel_rfl) hS (List.Sublist.refl _) (List.Sublist.refl _) ?_; intro w1 hS) | refine br_t (by assumption) ?_ | refine br_f (by assumption) ?_)
    (conv => whnf)
    refine fc_m (w8_c _ _ L6 hW6 ms[i].s.r hxi.1.1.1 (by have := hxi.1.1; omega) _ hS.ownF (by rw [List.length_append]; omega)) ?_
    rintro v w9 ⟨L7, hW7, hS'⟩
    replace hS := hS.callW hS'
    repeat ((conv => whnf); first | (apply q_i; focus (intro w1 hS; (conv => whnf); first | exact ⟨rfl, rfl⟩ | ((refine ld_f hS 0 rfl rfl ?_); (conv => whnf); exact ⟨rfl, rfl⟩) | ((refine ld_f hS 1 rfl rfl ?_); (conv => whnf); exact ⟨rfl, rfl⟩) | ((refine ld_f hS 2 rfl rfl ?_); (conv => whnf); exact ⟨rfl, rfl⟩) | ((refine ld_f hS 3 rfl rfl ?_); (conv => whnf); exact ⟨rfl, rfl⟩) | ((refine ld_f hS 4 rfl rfl ?_); (conv => whnf); exact ⟨rfl, rfl⟩) | ((refine ld_f hS 5 rfl rfl ?_); (conv => whnf); exact ⟨rfl, rfl⟩) | ((refine ld_f hS 6 rfl rfl ?_); (conv => whnf); exact ⟨rfl, rfl⟩) | ((refine ld_f hS 7 rfl rfl ?_); (conv => whnf); exact ⟨rfl, rfl⟩) | ((refine ldA_f hS 0 rfl rfl ?_); (conv => whnf); exact ⟨rfl, rfl⟩) | ((refine ldA_f hS 1 rfl rfl ?_); (conv => whnf); exact ⟨rfl, rfl⟩) | ((refine ldA_f hS 2 rfl rfl ?_); (conv => whnf); exact ⟨rfl, rfl⟩) | ((refine ldA_f hS 3 rfl rfl ?_); (conv => whnf); exact ⟨rfl, rfl⟩) | ((refine ldA_f hS 4 rfl rfl ?_); (conv => whnf); exact ⟨rfl, rfl⟩) | ((refine ldA_f hS 5 rfl rfl ?_); (conv => whnf); exact ⟨rfl, rfl⟩) | ((refine ldA_f hS 6 rfl rfl ?_); (conv => whnf); exact ⟨rfl, rfl⟩) | ((refine ldA_f hS 7 rfl rfl ?_); (conv => whnf); exact ⟨rfl, rfl⟩))) | (refine nw_f hS ?_; intro b w1 hS) | refine as_i hS ?_ | refine as_i (hS.subs (List.nil_sublist _) sb9) ?_ | refine as_i (hS.subs (List.Sublist.refl _) sb9) ?_ | refine bar_f hS ?_ | refine ld_f hS 0 rfl rfl ?_ | refine ld_f hS 1 rfl rfl ?_ | refine ld_f hS 2 rfl rfl ?_ | refine ld_f hS 3 rfl rfl ?_ | refine ld_f hS 4 rfl rfl ?_ | refine ld_f hS 5 rfl rfl ?_ | refine ld_f hS 6 rfl rfl ?_ | refine ld_f hS 7 rfl rfl ?_ | refine ldA_f hS 0 rfl rfl ?_ | refine ldA_f hS 1 rfl rfl ?_ | refine ldA_f hS 2 rfl rfl ?_ | refine ldA_f hS 3 rfl rfl ?_ | refine ldA_f hS 4 rfl rfl ?_ | refine ldA_f hS 5 rfl rfl ?_ | refine ldA_f hS 6 rfl rfl ?_ | refine ldA_f hS 7 rfl rfl ?_ | (refine stN_f hS 0 rfl (lb9 rfl) rfl rfl ?_; (conv => whnf); intro w1 hS) | (refine stN_f hS 1 rfl (lb9 rfl) rfl rfl ?_; (conv => whnf); intro w1 hS) | (refine stN_f hS 2 rfl (lb9 rfl) rfl rfl ?_; (conv => whnf); intro w1 hS) | (refine stN_f hS 3 rfl (lb9 rfl) rfl rfl ?_; (conv => whnf); intro w1 hS) | (refine stN_f hS 4 rfl (lb9 rfl) rfl rfl ?_; (conv => whnf); intro w1 hS) | (refine stN_f hS 5 rfl (lb9 rfl) rfl rfl ?_; (conv => whnf); intro w1 hS) | (refine stN_f hS 6 rfl (lb9 rfl) rfl rfl ?_; (conv => whnf); intro w1 hS) | (refine stN_f hS 7 rfl (lb9 rfl) rfl rfl ?_; (conv => whnf); intro w1 hS) | (refine stM_f hS 0 rfl (lb9 rfl) rfl ?_; (conv => whnf); intro w1 hS) | (refine stM_f hS 1 rfl (lb9 rfl) rfl ?_; (conv => whnf); intro w1 hS) | (refine stM_f hS 2 rfl (lb9 rfl) rfl ?_; (conv => whnf); intro w1 hS) | (refine stM_f hS 3 rfl (lb9 rfl) rfl ?_; (conv => whnf); intro w1 hS) | (refine stM_f hS 4 rfl (lb9 rfl) rfl ?_; (conv => whnf); intro w1 hS) | (refine stM_f hS 5 rfl (lb9 rfl) rfl ?_; (conv => whnf); intro w1 hS) | (refine stM_f hS 6 rfl (lb9 rfl) rfl ?_; (conv => whnf); intro w1 hS) | (refine stM_f hS 7 rfl (lb9 rfl) rfl ?_; (conv => whnf); intro w1 hS) | (refine drawf TB_ok rfl (by kernel_rfl) (by kernel_rfl) hS (List.Sublist.refl _) (List.Sublist.refl _) ?_; intro w1 hS) | refine br_t (by assumption) ?_ | refine br_f (by assumption) ?_)
    (conv => whnf)
    refine fc_m (w16u_c _ _ L7 hW7 ms[i].s.n hxi.1.2.1.1 (by have := hxi.2.2; omega) _ hS.ownF (by simp only [List.length_append, be_len]; omega)) ?_
    rintro v w10 ⟨L8, hW8, hS'⟩
    replace hS := hS.callW hS'
    repeat ((conv => whnf); first | (apply q_i; focus (intro w1 hS; (conv => whnf); first | exact ⟨rfl, rfl⟩ | ((refine ld_f hS 0 rfl rfl ?_); (conv => whnf); exact ⟨rfl, rfl⟩) | ((refine ld_f hS 1 rfl rfl ?_); (conv => whnf); exact ⟨rfl, rfl⟩) | ((refine ld_f hS 2 rfl rfl ?_); (conv => whnf); exact ⟨rfl, rfl⟩) | ((refine ld_f hS 3 rfl rfl ?_); (conv => whnf); exact ⟨rfl, rfl⟩) | ((refine ld_f hS 4 rfl rfl ?_); (conv => whnf); exact ⟨rfl, rfl⟩) | ((refine ld_f hS 5 rfl rfl ?_); (conv => whnf); exact ⟨rfl, rfl⟩) | ((refine ld_f hS 6 rfl rfl ?_); (conv => whnf); exact ⟨rfl, rfl⟩) | ((refine ld_f hS 7 rfl rfl ?_); (conv => whnf); exact ⟨rfl, rfl⟩) | ((refine ldA_f hS 0 rfl rfl ?_); (conv => whnf); exact ⟨rfl, rfl⟩) | ((refine ldA_f hS 1 rfl rfl ?_); (conv => whnf); exact ⟨rfl, rfl⟩) | ((refine ldA_f hS 2 rfl rfl ?_); (conv => whnf); exact ⟨rfl, rfl⟩) | ((refine ldA_f hS 3 rfl rfl ?_); (conv => whnf); exact ⟨rfl, rfl⟩) | ((refine ldA_f hS 4 rfl rfl ?_); (conv => whnf); exact ⟨rfl, rfl⟩) | ((refine ldA_f hS 5 rfl rfl ?_); (conv => whnf); exact ⟨rfl, rfl⟩) | ((refine ldA_f hS 6 rfl rfl ?_); (conv => whnf); exact ⟨rfl, rfl⟩) | ((refine ldA_f hS 7 rfl rfl ?_); (conv => whnf); exact ⟨rfl, rfl⟩) | ((refine ldN_f hS 0 rfl (lb9 rfl) ?_); (conv => whnf); exact ⟨rfl, rfl⟩))) | (refine nw_f hS ?_; intro b w1 hS) | refine as_i hS ?_ | refine as_i (hS.subs (List.nil_sublist _) sb9) ?_ | refine as_i (hS.subs (List.Sublist.refl _) sb9) ?_ | refine bar_f hS ?_ | refine ld_f hS 0 rfl rfl ?_ | refine ld_f hS 1 rfl rfl ?_ | refine ld_f hS 2 rfl rfl ?_ | refine ld_f hS 3 rfl rfl ?_ | refine ld_f hS 4 rfl rfl ?_ | refine ld_f hS 5 rfl rfl ?_ | refine ld_f hS 6 rfl rfl ?_ | refine ld_f hS 7 rfl rfl ?_ | refine ldA_f hS 0 rfl rfl ?_ | refine ldA_f hS 1 rfl rfl ?_ | refine ldA_f hS 2 rfl rfl ?_ | refine ldA_f hS 3 rfl rfl ?_ | refine ldA_f hS 4 rfl rfl ?_ | refine ldA_f hS 5 rfl rfl ?_ | refine ldA_f hS 6 rfl rfl ?_ | refine ldA_f hS 7 rfl rfl ?_ | (refine stN_f hS 0 rfl (lb9 rfl) rfl rfl ?_; (conv => whnf); intro w1 hS) | (refine stN_f hS 1 rfl (lb9 rfl) rfl rfl ?_; (conv => whnf); intro w1 hS) | (refine stN_f hS 2 rfl (lb9 rfl) rfl rfl ?_; (conv => whnf); intro w1 hS) | (refine stN_f hS 3 rfl (lb9 rfl) rfl rfl ?_; (conv => whnf); intro w1 hS) | (refine stN_f hS 4 rfl (lb9 rfl) rfl rfl ?_; (conv => whnf); intro w1 hS) | (refine stN_f hS 5 rfl (lb9 rfl) rfl rfl ?_; (conv => whnf); intro w1 hS) | (refine stN_f hS 6 rfl (lb9 rfl) rfl rfl ?_; (conv => whnf); intro w1 hS) | (refine stN_f hS 7 rfl (lb9 rfl) rfl rfl ?_; (conv => whnf); intro w1 hS) | (refine stM_f hS 0 rfl (lb9 rfl) rfl ?_; (conv => whnf); intro w1 hS) | (refine stM_f hS 1 rfl (lb9 rfl) rfl ?_; (conv => whnf); intro w1 hS) | (refine stM_f hS 2 rfl (lb9 rfl) rfl ?_; (conv => whnf); intro w1 hS) | (refine stM_f hS 3 rfl (lb9 rfl) rfl ?_; (conv => whnf); intro w1 hS) | (refine stM_f hS 4 rfl (lb9 rfl) rfl ?_; (conv => whnf); intro w1 hS) | (refine stM_f hS 5 rfl (lb9 rfl) rfl ?_; (conv => whnf); intro w1 hS) | (refine stM_f hS 6 rfl (lb9 rfl) rfl ?_; (conv => whnf); intro w1 hS) | (refine stM_f hS 7 rfl (lb9 rfl) rfl ?_; (conv => whnf); intro w1 hS) | refine ldN_f hS 0 rfl (lb9 rfl) ?_ | (refine drawf TB_ok rfl (by kernel_rfl) (by kernel_rfl) hS (List.Sublist.refl _) (List.Sublist.refl _) ?_; intro w1 hS) | refine br_t (by assumption) ?_ | refine br_f (by assumption) ?_)
    (conv => whnf)
    refine fc_m (putValue_c bw _ L8 hW8 ms[i].s.v hxi.1.2.2 hxi.2.1 ms[i].A ms[i].c _ (fun w' h' => (hR w' (hS.callW h').nil).el _ (List.getElem_mem hlt)) hS.ownF (by simp only [List.length_append, be_len]; omega)) ?_
    rintro v w11 ⟨L9, hW9, hS'⟩
    replace hS := hS.callW hS'
    repeat ((conv => whnf); first | (apply q_i; focus (intro w1 hS; (conv => whnf); first | exact ⟨rfl, rfl⟩ | ((refine ld_f hS 0 rfl rfl ?_); (conv => whnf); exact ⟨rfl, rfl⟩) | ((refine ld_f hS 1 rfl rfl ?_); (conv => whnf); exact ⟨rfl, rfl⟩) | ((refine ld_f hS 2 rfl rfl ?_); (conv => whnf); exact ⟨rfl, rfl⟩) | ((refine ld_f hS 3 rfl rfl ?_); (conv => whnf); exact ⟨rfl, rfl⟩) | ((refine ld_f hS 4 rfl rfl ?_); (conv => whnf); exact ⟨rfl, rfl⟩) | ((refine ld_f hS 5 rfl rfl ?_); (conv => whnf); exact ⟨rfl, rfl⟩) | ((refine ld_f hS 6 rfl rfl ?_); (conv => whnf); exact ⟨rfl, rfl⟩) | ((refine ld_f hS 7 rfl rfl ?_); (conv => whnf); exact ⟨rfl, rfl⟩) | ((refine ldA_f hS 0 rfl rfl ?_); (conv => whnf); exact ⟨rfl, rfl⟩) | ((refine ldA_f hS 1 rfl rfl ?_); (conv => whnf); exact ⟨rfl, rfl⟩) | ((refine ldA_f hS 2 rfl rfl ?_); (conv => whnf); exact ⟨rfl, rfl⟩) | ((refine ldA_f hS 3 rfl rfl ?_); (conv => whnf); exact ⟨rfl, rfl⟩) | ((refine ldA_f hS 4 rfl rfl ?_); (conv => whnf); exact ⟨rfl, rfl⟩) | ((refine ldA_f hS 5 rfl rfl ?_); (conv => whnf); exact ⟨rfl, rfl⟩) | ((refine ldA_f hS 6 rfl rfl ?_); (conv => whnf); exact ⟨rfl, rfl⟩) | ((refine ldA_f hS 7 rfl rfl ?_); (conv => whnf); exact ⟨rfl, rfl⟩))) | (refine nw_f hS ?_; intro b w1 hS) | refine as_i hS ?_ | refine as_i (hS.subs (List.nil_sublist _) sb9) ?_ | refine as_i (hS.subs (List.Sublist.refl _) sb9) ?_ | refine bar_f hS ?_ | refine ld_f hS 0 rfl rfl ?_ | refine ld_f hS 1 rfl rfl ?_ | refine ld_f hS 2 rfl rfl ?_ | refine ld_f hS 3 rfl rfl ?_ | refine ld_f hS 4 rfl rfl ?_ | refine ld_f hS 5 rfl rfl ?_ | refine ld_f hS 6 rfl rfl ?_ | refine ld_f hS 7 rfl rfl ?_ | refine ldA_f hS 0 rfl rfl ?_ | refine ldA_f hS 1 rfl rfl ?_ | refine ldA_f hS 2 rfl rfl ?_ | refine ldA_f hS 3 rfl rfl ?_ | refine ldA_f hS 4 rfl rfl ?_ | refine ldA_f hS 5 rfl rfl ?_ | refine ldA_f hS 6 rfl rfl ?_ | refine ldA_f hS 7 rfl rfl ?_ | (refine stN_f hS 0 rfl (lb9 rfl) rfl rfl ?_; (conv => whnf); intro w1 hS) | (refine stN_f hS 1 rfl (lb9 rfl) rfl rfl ?_; (conv => whnf); intro w1 hS) | (refine stN_f hS 2 rfl (lb9 rfl) rfl rfl ?_; (conv => whnf); intro w1 hS) | (refine stN_f hS 3 rfl (lb9 rfl) rfl rfl ?_; (conv => whnf); intro w1 hS) | (refine stN_f hS 4 rfl (lb9 rfl) rfl rfl ?_; (conv => whnf); intro w1 hS) | (refine stN_f hS 5 rfl (lb9 rfl) rfl rfl ?_; (conv => whnf); intro w1 hS) | (refine stN_f hS 6 rfl (lb9 rfl) rfl rfl ?_; (conv => whnf); intro w1 hS) | (refine stN_f hS 7 rfl (lb9 rfl) rfl rfl ?_; (conv => whnf); intro w1 hS) | (refine stM_f hS 0 rfl (lb9 rfl) rfl ?_; (conv => whnf); intro w1 hS) | (refine stM_f hS 1 rfl (lb9 rfl) rfl ?_; (conv => whnf); intro w1 hS) | (refine stM_f hS 2 rfl (lb9 rfl) rfl ?_; (conv => whnf); intro w1 hS) | (refine stM_f hS 3 rfl (lb9 rfl) rfl ?_; (conv => whnf); intro w1 hS) | (refine stM_f hS 4 rfl (lb9 rfl) rfl ?_; (conv => whnf); intro w1 hS) | (refine stM_f hS 5 rfl (lb9 rfl) rfl ?_; (conv => whnf); intro w1 hS) | (refine stM_f hS 6 rfl (lb9 rfl) rfl ?_; (conv => whnf); intro w1 hS) | (refine stM_f hS 7 rfl (lb9 rfl) rfl ?_; (conv => whnf); intro w1 hS) | (refine drawf TB_ok rfl (by kernel_rfl) (by kernel_rfl) hS (List.Sublist.refl _) (List.Sublist.refl _) ?_; intro w1 hS) | refine br_t (by assumption) ?_ | refine br_f (by assumption) ?_)
    (conv => whnf)
    refine end_f hS 3 rfl ?_
    (conv => whnf)
    intro w12 hS
    repeat ((conv => whnf); first | (apply q_i; focus (intro w1 hS; (conv => whnf); first | exact ⟨rfl, rfl⟩ | ((refine ld_f hS 0 rfl rfl ?_); (conv => whnf); exact ⟨rfl, rfl⟩) | ((refine ld_f hS 1 rfl rfl ?_); (conv => whnf); exact ⟨rfl, rfl⟩) | ((refine ld_f hS 2 rfl rfl ?_); (conv => whnf); exact ⟨rfl, rfl⟩) | ((refine ld_f hS 3 rfl rfl ?_); (conv => whnf); exact ⟨rfl, rfl⟩) | ((refine ld_f hS 4 rfl rfl ?_); (conv => whnf); exact ⟨rfl, rfl⟩) | ((refine ld_f hS 5 rfl rfl ?_); (conv => whnf); exact ⟨rfl, rfl⟩) | ((refine ld_f hS 6 rfl rfl ?_); (conv => whnf); exact ⟨rfl, rfl⟩) | ((refine ld_f hS 7 rfl rfl ?_); (conv => whnf); exact ⟨rfl, rfl⟩) | ((refine ldA_f hS 0 rfl rfl ?_); (conv => whnf); exact ⟨rfl, rfl⟩) | ((refine ldA_f hS 1 rfl rfl ?_); (conv => whnf); exact ⟨rfl, rfl⟩) | ((refine ldA_f hS 2 rfl rfl ?_); (conv => whnf); exact ⟨rfl, rfl⟩) | ((refine ldA_f hS 3 rfl rfl ?_); (conv => whnf); exact ⟨rfl, rfl⟩) | ((refine ldA_f hS 4 rfl rfl ?_); (conv => whnf); exact ⟨rfl, rfl⟩) | ((refine ldA_f hS 5 rfl rfl ?_); (conv => whnf); exact ⟨rfl, rfl⟩) | ((refine ldA_f hS 6 rfl rfl ?_); (conv => whnf); exact ⟨rfl, rfl⟩) | ((refine ldA_f hS 7 rfl rfl ?_); (conv => whnf); exact ⟨rfl, rfl⟩))) | (refine nw_f hS ?_; intro b w1 hS) | refine as_i hS ?_ | refine as_i (hS.subs (List.nil_sublist _) sb9) ?_ | refine as_i (hS.subs (List.Sublist.refl _) sb9) ?_ | refine bar_f hS ?_ | refine ld_f hS 0 rfl rfl ?_ | refine ld_f hS 1 rfl rfl ?_ | refine ld_f hS 2 rfl rfl ?_ | refine ld_f hS 3 rfl rfl ?_ | refine ld_f hS 4 rfl rfl ?_ | refine ld_f hS 5 rfl rfl ?_ | refine ld_f hS 6 rfl rfl ?_ | refine ld_f hS 7 rfl rfl ?_ | refine ldA_f hS 0 rfl rfl ?_ | refine ldA_f hS 1 rfl rfl ?_ | refine ldA_f hS 2 rfl rfl ?_ | refine ldA_f hS 3 rfl rfl ?_ | refine ldA_f hS 4 rfl rfl ?_ | refine ldA_f hS 5 rfl rfl ?_ | refine ldA_f hS 6 rfl rfl ?_ | refine ldA_f hS 7 rfl rfl ?_ | (refine stN_f hS 0 rfl (lb9 rfl) rfl rfl ?_; (conv => whnf); intro w1 hS) | (refine stN_f hS 1 rfl (lb9 rfl) rfl rfl ?_; (conv => whnf); intro w1 hS) | (refine stN_f hS 2 rfl (lb9 rfl) rfl rfl ?_; (conv => whnf); intro w1 hS) | (refine stN_f hS 3 rfl (lb9 rfl) rfl rfl ?_; (conv => whnf); intro w1 hS) | (refine stN_f hS 4 rfl (lb9 rfl) rfl rfl ?_; (conv => whnf); intro w1 hS) | (refine stN_f hS 5 rfl (lb9 rfl) rfl rfl ?_; (conv => whnf); intro w1 hS) | (refine stN_f hS 6 rfl (lb9 rfl) rfl rfl ?_; (conv => whnf); intro w1 hS) | (refine stN_f hS 7 rfl (lb9 rfl) rfl rfl ?_; (conv => whnf); intro w1 hS) | (refine stM_f hS 0 rfl (lb9 rfl) rfl ?_; (conv => whnf); intro w1 hS) | (refine stM_f hS 1 rfl (lb9 rfl) rfl ?_; (conv => whnf); intro w1 hS) | (refine stM_f hS 2 rfl (lb9 rfl) rfl ?_; (conv => whnf); intro w1 hS) | (refine stM_f hS 3 rfl (lb9 rfl) rfl ?_; (conv => whnf); intro w1 hS) | (refine stM_f hS 4 rfl (lb9 rfl) rfl ?_; (conv => whnf); intro w1 hS) | (refine stM_f hS 5 rfl (lb9 rfl) rfl ?_; (conv => whnf); intro w1 hS) | (refine stM_f hS 6 rfl (lb9 rfl) rfl ?_; (conv => whnf); intro w1 hS) | (refine stM_f hS 7 rfl (lb9 rfl) rfl ?_; (conv => whnf); intro w1 hS) | (refine drawf TB_ok rfl (by kernel_rfl) (by kernel_rfl) hS (List.Sublist.refl _) (List.Sublist.refl _) ?_; intro w1 hS) | refine br_t (by assumption) ?_ | refine br_f (by assumption) ?_)
    refine ⟨rfl, i + 1, ?_, ⟨by omega, L9, ?_, hS.subs (List.Sublist.refl _) (.cons _ (.cons _ (.cons _ (.refl _))))⟩, by omega⟩
    · rw [wi hlt (by omega)]
      rfl
    · rw [sbsT_snoc _ (by simpa using hlt), List.getElem_map]
      unfold sbT
      simpa only [List.append_assoc] using hW9
  · have hge : i = ms.length := by have := of_decide_eq_false hb; omega
    subst hge
    rw [List.take_of_length_le (by simp)] at hW6
    (conv => whnf)
    refine loopEnd_f hS 0 rfl rfl rfl ?_
    (conv => whnf)
    intro w9 hS
    repeat ((conv => whnf); first | (apply q_i; focus (intro w1 hS; (conv => whnf); first | exact ⟨rfl, rfl⟩ | ((refine ld_f hS 0 rfl rfl ?_); (conv => whnf); exact ⟨rfl, rfl⟩) | ((refine ld_f hS 1 rfl rfl ?_); (conv => whnf); exact ⟨rfl, rfl⟩) | ((refine ld_f hS 2 rfl rfl ?_); (conv => whnf); exact ⟨rfl, rfl⟩) | ((refine ld_f hS 3 rfl rfl ?_); (conv => whnf); exact ⟨rfl, rfl⟩) | ((refine ld_f hS 4 rfl rfl ?_); (conv => whnf); exact ⟨rfl, rfl⟩) | ((refine ldA_f hS 0 rfl rfl ?_); (conv => whnf); exact ⟨rfl, rfl⟩) | ((refine ldA_f hS 1 rfl rfl ?_); (conv => whnf); exact ⟨rfl, rfl⟩) | ((refine ldA_f hS 2 rfl rfl ?_); (conv => whnf); exact ⟨rfl, rfl⟩) | ((refine ldA_f hS 3 rfl rfl ?_); (conv => whnf); exact ⟨rfl, rfl⟩) | ((refine ldA_f hS 4 rfl rfl ?_); (conv => whnf); exact ⟨rfl, rfl⟩))) | (refine nw_f hS ?_; intro b w1 hS) | refine as_i hS ?_ | refine as_i (hS.subs (List.nil_sublist _) sb9) ?_ | refine as_i (hS.subs (List.Sublist.refl _) sb9) ?_ | refine bar_f hS ?_ | refine ld_f hS 0 rfl rfl ?_ | refine ld_f hS 1 rfl rfl ?_ | refine ld_f hS 2 rfl rfl ?_ | refine ld_f hS 3 rfl rfl ?_ | refine ld_f hS 4 rfl rfl ?_ | refine ldA_f hS 0 rfl rfl ?_ | refine ldA_f hS 1 rfl rfl ?_ | refine ldA_f hS 2 rfl rfl ?_ | refine ldA_f hS 3 rfl rfl ?_ | refine ldA_f hS 4 rfl rfl ?_ | (refine stN_f hS 0 rfl (lb9 rfl) rfl rfl ?_; (conv => whnf); intro w1 hS) | (refine stN_f hS 1 rfl (lb9 rfl) rfl rfl ?_; (conv => whnf); intro w1 hS) | (refine stN_f hS 2 rfl (lb9 rfl) rfl rfl ?_; (conv => whnf); intro w1 hS) | (refine stN_f hS 3 rfl (lb9 rfl) rfl rfl ?_; (conv => whnf); intro w1 hS) | (refine stN_f hS 4 rfl (lb9 rfl) rfl rfl ?_; (conv => whnf); intro w1 hS) | (refine stM_f hS 0 rfl (lb9 rfl) rfl ?_; (conv => whnf); intro w1 hS) | (refine stM_f hS 1 rfl (lb9 rfl) rfl ?_; (conv => whnf); intro w1 hS) | (refine stM_f hS 2 rfl (lb9 rfl) rfl ?_; (conv => whnf); intro w1 hS) | (refine stM_f hS 3 rfl (lb9 rfl) rfl ?_; (conv => whnf); intro w1 hS) | (refine stM_f hS 4 rfl (lb9 rfl) rfl ?_; (conv => whnf); intro w1 hS) | (refine drawf TB_ok rfl (by kernel_rfl) (by kernel_rfl) hS (List.Sublist.refl _) (List.Sublist.refl _) ?_; intro w1 hS) | refine br_t (by assumption) ?_ | refine br_f (by assumption) ?_)
    (conv => whnf)
    refine take_f hS 1 rfl ?_
    (conv => whnf)
    intro w11 hS
    repeat ((conv => whnf); first | (apply q_i; focus (intro w1 hS; (conv => whnf); first | exact ⟨rfl, rfl⟩ | ((refine ld_f hS 0 rfl rfl ?_); (conv => whnf); exact ⟨rfl, rfl⟩) | ((refine ld_f hS 1 rfl rfl ?_); (conv => whnf); exact ⟨rfl, rfl⟩) | ((refine ld_f hS 2 rfl rfl ?_); (conv => whnf); exact ⟨rfl, rfl⟩) | ((refine ld_f hS 3 rfl rfl ?_); (conv => whnf); exact ⟨rfl, rfl⟩) | ((refine ld_f hS 4 rfl rfl ?_); (conv => whnf); exact ⟨rfl, rfl⟩) | ((refine ldA_f hS 0 rfl rfl ?_); (conv => whnf); exact ⟨rfl, rfl⟩) | ((refine ldA_f hS 1 rfl rfl ?_); (conv => whnf); exact ⟨rfl, rfl⟩) | ((refine ldA_f hS 2 rfl rfl ?_); (conv => whnf); exact ⟨rfl, rfl⟩) | ((refine ldA_f hS 3 rfl rfl ?_); (conv => whnf); exact ⟨rfl, rfl⟩) | ((refine ldA_f hS 4 rfl rfl ?_); (conv => whnf); exact ⟨rfl, rfl⟩))) | (refine nw_f hS ?_; intro b w1 hS) | refine as_i hS ?_ | refine as_i (hS.subs (List.nil_sublist _) sb9) ?_ | refine as_i (hS.subs (List.Sublist.refl _) sb9) ?_ | refine bar_f hS ?_ | refine ld_f hS 0 rfl rfl ?_ | refine ld_f hS 1 rfl rfl ?_ | refine ld_f hS 2 rfl rfl ?_ | refine ld_f hS 3 rfl rfl ?_ | refine ld_f hS 4 rfl rfl ?_ | refine ldA_f hS 0 rfl rfl ?_ | refine ldA_f hS 1 rfl rfl ?_ | refine ldA_f hS 2 rfl rfl ?_ | refine ldA_f hS 3 rfl rfl ?_ | refine ldA_f hS 4 rfl rfl ?_ | (refine stN_f hS 0 rfl (lb9 rfl) rfl rfl ?_; (conv => whnf); intro w1 hS) | (refine stN_f hS 1 rfl (lb9 rfl) rfl rfl ?_; (conv => whnf); intro w1 hS) | (refine stN_f hS 2 rfl (lb9 rfl) rfl rfl ?_; (conv => whnf); intro w1 hS) | (refine stN_f hS 3 rfl (lb9 rfl) rfl rfl ?_; (conv => whnf); intro w1 hS) | (refine stN_f hS 4 rfl (lb9 rfl) rfl rfl ?_; (conv => whnf); intro w1 hS) | (refine stM_f hS 0 rfl (lb9 rfl) rfl ?_; (conv => whnf); intro w1 hS) | (refine stM_f hS 1 rfl (lb9 rfl) rfl ?_; (conv => whnf); intro w1 hS) | (refine stM_f hS 2 rfl (lb9 rfl) rfl ?_; (conv => whnf); intro w1 hS) | (refine stM_f hS 3 rfl (lb9 rfl) rfl ?_; (conv => whnf); intro w1 hS) | (refine stM_f hS 4 rfl (lb9 rfl) rfl ?_; (conv => whnf); intro w1 hS) | (refine drawf TB_ok rfl (by kernel_rfl) (by kernel_rfl) hS (List.Sublist.refl _) (List.Sublist.refl _) ?_; intro w1 hS) | refine br_t (by assumption) ?_ | refine br_f (by assumption) ?_)
    have h2 := hS.fr (List.Sublist.refl _)
    rw [List.append_nil] at h2
    refine ⟨L6, ?_, h2⟩
    rw [← hpre] at hW6
    simpa only [List.append_assoc] using hW6
end Go.RV


set_option maxRecDepth 20000
set_option linter.unusedVariables false
set_option linter.unusedSimpArgs false
namespace Go.RV
open Go Go.Proofs Go.RowKit

theorem mayR1 {x : Rx} (hk : x.k = 1) : mayR x = decide (x.r < 8) := by
  unfold mayR
  rw [if_pos hk]
theorem restT1 {x : Rx} (hk : x.k = 1) : restT x = be x.r 1 := by
  unfold restT
  rw [if_pos hk]
theorem mayR2 {x : Rx} (hk : x.k = 2) : mayR x = (decide (x.n0 ≤ 1073741824) && (decide (0 < x.n1) && decide (0 < x.n2))) := by
  unfold mayR
  rw [if_neg (by omega), if_pos hk]
theorem restT2 {x : Rx} (hk : x.k = 2) : restT x = be x.n0 4 ++ be x.n1 4 ++ be x.n2 4 := by
  unfold restT
  rw [if_neg (by omega), if_pos hk]
theorem mayR3 {x : Rx} (hk : x.k = 3) : mayR x = (decide (x.rk ≤ 1) && inB x.rq 0 1073741824) := by
  unfold mayR
  rw [if_neg (by omega), if_neg (by omega), if_pos hk]
theorem restT3 {x : Rx} (hk : x.k = 3) : restT x = be x.rk 1 ++ be x.ra 4 ++ be x.rq 4 := by
  unfold restT
  rw [if_neg (by omega), if_neg (by omega), if_pos hk]
theorem mayR4 {x : Rx} (hk : x.k = 4) : mayR x = (namedB x.p && regB x.f x.xs) := by
  unfold mayR
  rw [if_neg (by omega), if_neg (by omega), if_neg (by omega), if_pos hk]
theorem restT4 {x : Rx} (hk : x.k = 4) : restT x = pathT x.p ++ ctxT x.f ++ be x.xs.length 1 ++ sbsT x.xs := by
  unfold restT
  rw [if_neg (by omega), if_neg (by omega), if_neg (by omega), if_pos hk]
theorem mayR5 {x : Rx} (hk : x.k = 5) : mayR x = (namedB x.p && verB x.vi x.vt x.vc x.v) := by
  unfold mayR
  rw [if_neg (by omega), if_neg (by omega), if_neg (by omega), if_neg (by omega), if_pos hk]
theorem restT5 {x : Rx} (hk : x.k = 5) : restT x = pathT x.p ++ be x.vi 4 ++ be x.vt 4 ++ be x.vc 1 ++ vaT x.v := by
  unfold restT
  rw [if_neg (by omega), if_neg (by omega), if_neg (by omega), if_neg (by omega), if_pos hk]
theorem mayR6 {x : Rx} (hk : x.k = 6) : mayR x = decide (0 < x.vi) := by
  unfold mayR
  rw [if_neg (by omega), if_neg (by omega), if_neg (by omega), if_neg (by omega), if_neg (by omega), if_pos hk]
theorem restT6 {x : Rx} (hk : x.k = 6) : restT x = be x.vi 4 := by
  unfold restT
  rw [if_neg (by omega), if_neg (by omega), if_neg (by omega), if_neg (by omega), if_neg (by omega), if_pos hk]
theorem mayR7 {x : Rx} (hk : x.k = 7) : mayR x = chunkB x.ci x.cb x.cr x.cs := by
  unfold mayR
  rw [if_neg (by omega), if_neg (by omega), if_neg (by omega), if_neg (by omega), if_neg (by omega), if_neg (by omega), if_pos hk]
theorem restT7 {x : Rx} (hk : x.k = 7) : restT x = be x.ci 4 ++ be x.cb 2 ++ be x.cr 2 ++ be x.cs 1 := by
  unfold restT
  rw [if_neg (by omega), if_neg (by omega), if_neg (by omega), if_neg (by omega), if_neg (by omega), if_neg (by omega), if_pos hk]
theorem mayR8 {x : Rx} (hk : x.k = 8) : mayR x = (decide (x.r < 8) && (namedB x.p && mayVB x.g)) := by
  unfold mayR
  rw [if_neg (by omega), if_neg (by omega), if_neg (by omega), if_neg (by omega), if_neg (by omega), if_neg (by omega), if_neg (by omega), if_pos hk]
theorem restT8 {x : Rx} (hk : x.k = 8) : restT x = be x.r 1 ++ pathT x.p ++ ctxT x.g := by
  unfold restT
  rw [if_neg (by omega), if_neg (by omega), if_neg (by omega), if_neg (by omega), if_neg (by omega), if_neg (by omega), if_neg (by omega), if_pos hk]
theorem checkR_may {x : Rx} (h : checkR x = true) : mayR x = true := by
  unfold checkR at h
  exact (Bool.and_eq_true _ _ ▸ h).1
theorem checkR_kinds {x : Rx} (h : checkR x = true) : x.k = 1 ∨ x.k = 2 ∨ x.k = 3 ∨ x.k = 4 ∨ x.k = 5 ∨ x.k = 6 ∨ x.k = 7 ∨ x.k = 8 := by
  have hm := checkR_may h
  rcases kinds x.k with hk | hk | hk | hk | hk | hk | hk | hk | hk
  all_goals first
    | omega
    | (rw [mayR9 hk] at hm; cases hm)
theorem inB_iff {n a c : Int} : inB n a c = true ↔ a ≤ n ∧ n ≤ c := by unfold inB; simp
theorem chunkB_in {a q c d : Int} (h : chunkB a q c d = true) : (0 ≤ q ∧ q ≤ 2047) ∧ (0 ≤ c ∧ c ≤ 65535) ∧ (0 ≤ d ∧ d ≤ 64) := by
  unfold chunkB at h
  split at h
  · simp at h
    omega
  · simp only [Bool.and_eq_true, inB_iff] at h
    omega
theorem regB_parts {f : Nat → Int} {xs : List Sv} (h : regB f xs = true) : mayVB f = true ∧ xs.length ≤ 8 ∧ ∀ s ∈ xs, hasB f s.r s.n = true ∧ okV s.v = true := by
  unfold regB checkS at h
  rw [Bool.and_eq_true, List.all_eq_true] at h
  obtain ⟨h1, h2, h3⟩ := checkC_parts h.1
  rw [List.length_map] at h2
  exact ⟨h1, h2, fun s hs => ⟨h3 (dotC s) (List.mem_map_of_mem hs), h.2 s hs⟩⟩
theorem recT_len {x : Rx} (h : checkR x = true) : (recT x).length ≤ 300 := by
  have hm := checkR_may h
  have hpl : namedB x.p = true → (pathT x.p).length ≤ 37 := fun hp => by
    have := namedB_len hp
    unfold pathT
    rw [List.length_append, be_len]
    omega
  have hf := ctxT_len x.f
  have hg := ctxT_len x.g
  unfold recT
  rw [List.length_append, be_len]
  rcases checkR_kinds h with hk | hk | hk | hk | hk | hk | hk | hk
  · rw [restT1 hk]; simp [be_len]
  · rw [restT2 hk]; simp [be_len]
  · rw [restT3 hk]; simp [be_len]
  · rw [restT4 hk]
    rw [mayR4 hk, Bool.and_eq_true] at hm
    have h1 := hpl hm.1
    obtain ⟨_, h2, h3⟩ := regB_parts hm.2
    have h4 := sbsT_len x.xs (fun s hs => (h3 s hs).2)
    simp only [List.length_append, be_len]
    omega
  · rw [restT5 hk]
    rw [mayR5 hk, Bool.and_eq_true] at hm
    have h1 := hpl hm.1
    have h2 : okV x.v = true := by have := hm.2; unfold verB at this; simp only [Bool.and_eq_true] at this; exact this.2.2.2.2
    have h3 := valT_len h2
    simp only [List.length_append, be_len]
    omega
  · rw [restT6 hk]; simp [be_len]
  · rw [restT7 hk]; simp [be_len]
  · rw [restT8 hk]
    rw [mayR8 hk, Bool.and_eq_true, Bool.and_eq_true] at hm
    have h1 := hpl hm.2.1
    simp only [List.length_append, be_len]
    omega
theorem idx3 {a q c : Int} {i : Nat} (hi : i < 3) {w : World} {K : Value → World → Prop} (k : K (.int .u32 (l3 a q c i)) w) :
    SemN Tryz.prog (Instr.index 33 (arr3 a q c) (.int .i64 (i : Int))) w K := by
  refine ⟨SemW.of_run (a := .int .u32 (l3 a q c i)) (w' := w) ?_ k⟩
  unfold Instr.index arr3
  have hp : (part 32 #[Value.int .u32 a, .int .u32 q, .int .u32 c] (i * 1)).run Tryz.prog w = .ok (.int .u32 (l3 a q c i)) w := part_plain ⟨_, Tryz.underlying32, by simp, by simp⟩ (by
    rw [Nat.mul_one]
    rcases (show i = 0 ∨ i = 1 ∨ i = 2 by omega) with rfl | rfl | rfl <;> rfl)
  have hlt : 0 ≤ (i : Int) ∧ (i : Int) < ((3 : Nat) : Int) := by omega
  simp only [Sem.run_bind, asIntOf, Sem.run_pure, Result.andThen_ok, run_underlying Tryz.underlying33, if_pos hlt, run_sizeOf_ok TB_ok (show tsz TB 32 = some 1 from rfl), Int.toNat_natCast, hp]
theorem putVer_c (bw : Nat) (bs : List UInt8) (L : LM) (hW : Wr bw bs L) (a q c : Int) (ha : 0 ≤ a ∧ a ≤ 4294967295) (hq : 0 ≤ q ∧ q ≤ 4294967295) (hc : 0 ≤ c ∧ c ≤ 255) (v : Va) (ho : okVa v) (hk : okV v = true) (A : Option Addr) (e : Nat) (w : World) (hR : ∀ w', St (keys L) w w' [] → Rd w' A (flat encU v.ks)) (hS : St (keys L) w w L) (hn : bs.length ≤ 17592186044416) :
    Fc Tryz.prog 67 [.pointer (some ⟨bw, 0, none⟩), verV a q c v A e] w fun u w' => ∃ L', Wr bw (bs ++ be a 4 ++ be q 4 ++ be c 1 ++ vaT v) L' ∧ St (keys L) w w' L' := by
  refine fc_i TB_ok Tryz.func67 rfl (by kernel_rfl) ?_
  have hS : Sf (keys L) w w (L ++ []) [] := ⟨by simpa using hS⟩
  repeat ((conv => whnf); first | (apply q_i; focus (intro w1 hS; (conv => whnf); first | exact ⟨rfl, rfl⟩ | ((refine ld_f hS 0 rfl rfl ?_); (conv => whnf); exact ⟨rfl, rfl⟩) | ((refine ldA_f hS 0 rfl rfl ?_); (conv => whnf); exact ⟨rfl, rfl⟩))) | (refine nw_f hS ?_; intro b w1 hS) | refine as_i hS ?_ | refine as_i (hS.subs (List.nil_sublist _) sb9) ?_ | refine as_i (hS.subs (List.Sublist.refl _) sb9) ?_ | refine bar_f hS ?_ | refine ld_f hS 0 rfl rfl ?_ | refine ldA_f hS 0 rfl rfl ?_ | (refine stN_f hS 0 rfl (lb9 rfl) rfl rfl ?_; (conv => whnf); intro w1 hS) | (refine stM_f hS 0 rfl (lb9 rfl) rfl ?_; (conv => whnf); intro w1 hS) | (refine drawf TB_ok rfl (by kernel_rfl) (by kernel_rfl) hS (List.Sublist.refl _) (List.Sublist.refl _) ?_; intro w1 hS) | refine br_t (by assumption) ?_ | refine br_f (by assumption) ?_)
  (conv => whnf)
  refine fc_m (w32_c _ _ L hW a ha.1 ha.2 _ hS.ownF (by omega)) ?_
  rintro u w2 ⟨L2, hW2, hS'⟩
  replace hS := hS.callW hS'
  repeat ((conv => whnf); first | (apply q_i; focus (intro w1 hS; (conv => whnf); first | exact ⟨rfl, rfl⟩ | ((refine ld_f hS 0 rfl rfl ?_); (conv => whnf); exact ⟨rfl, rfl⟩) | ((refine ldA_f hS 0 rfl rfl ?_); (conv => whnf); exact ⟨rfl, rfl⟩))) | (refine nw_f hS ?_; intro b w1 hS) | refine as_i hS ?_ | refine as_i (hS.subs (List.nil_sublist _) sb9) ?_ | refine as_i (hS.subs (List.Sublist.refl _) sb9) ?_ | refine bar_f hS ?_ | refine ld_f hS 0 rfl rfl ?_ | refine ldA_f hS 0 rfl rfl ?_ | (refine stN_f hS 0 rfl (lb9 rfl) rfl rfl ?_; (conv => whnf); intro w1 hS) | (refine stM_f hS 0 rfl (lb9 rfl) rfl ?_; (conv => whnf); intro w1 hS) | (refine drawf TB_ok rfl (by kernel_rfl) (by kernel_rfl) hS (List.Sublist.refl _) (List.Sublist.refl _) ?_; intro w1 hS) | refine br_t (by assumption) ?_ | refine br_f (by assumption) ?_)
  (conv => whnf)
  refine fc_m (w32_c _ _ L2 hW2 q hq.1 hq.2 _ hS.ownF (by simp only [List.length_append, be_len]; omega)) ?_
  rintro u w3 ⟨L3, hW3, hS'⟩
  replace hS := hS.callW hS'
  repeat ((conv => whnf); first | (apply q_i; focus (intro w1 hS; (conv => whnf); first | exact ⟨rfl, rfl⟩ | ((refine ld_f hS 0 rfl rfl ?_); (conv => whnf); exact ⟨rfl, rfl⟩) | ((refine ldA_f hS 0 rfl rfl ?_); (conv => whnf); exact ⟨rfl, rfl⟩))) | (refine nw_f hS ?_; intro b w1 hS) | refine as_i hS ?_ | refine as_i (hS.subs (List.nil_sublist _) sb9) ?_ | refine as_i (hS.subs (List.Sublist.refl _) sb9) ?_ | refine bar_f hS ?_ | refine ld_f hS 0 rfl rfl ?_ | refine ldA_f hS 0 rfl rfl ?_ | (refine stN_f hS 0 rfl (lb9 rfl) rfl rfl ?_; (conv => whnf); intro w1 hS) | (refine stM_f hS 0 rfl (lb9 rfl) rfl ?_; (conv => whnf); intro w1 hS) | (refine drawf TB_ok rfl (by kernel_rfl) (by kernel_rfl) hS (List.Sublist.refl _) (List.Sublist.refl _) ?_; intro w1 hS) | refine br_t (by assumption) ?_ | refine br_f (by assumption) ?_)
  (conv => whnf)
  refine fc_m (w8_c _ _ L3 hW3 c hc.1 (by omega) _ hS.ownF (by simp only [List.length_append, be_len]; omega)) ?_
  rintro u w4 ⟨L4, hW4, hS'⟩
  replace hS := hS.callW hS'
  repeat ((conv => whnf); first | (apply q_i; focus (intro w1 hS; (conv => whnf); first | exact ⟨rfl, rfl⟩ | ((refine ld_f hS 0 rfl rfl ?_); (conv => whnf); exact ⟨rfl, rfl⟩) | ((refine ldA_f hS 0 rfl rfl ?_); (conv => whnf); exact ⟨rfl, rfl⟩) | ((refine ldN_f hS 0 rfl (lb9 rfl) ?_); (conv => whnf); exact ⟨rfl, rfl⟩))) | (refine nw_f hS ?_; intro b w1 hS) | refine as_i hS ?_ | refine as_i (hS.subs (List.nil_sublist _) sb9) ?_ | refine as_i (hS.subs (List.Sublist.refl _) sb9) ?_ | refine bar_f hS ?_ | refine ld_f hS 0 rfl rfl ?_ | refine ldA_f hS 0 rfl rfl ?_ | (refine stN_f hS 0 rfl (lb9 rfl) rfl rfl ?_; (conv => whnf); intro w1 hS) | (refine stM_f hS 0 rfl (lb9 rfl) rfl ?_; (conv => whnf); intro w1 hS) | refine ldN_f hS 0 rfl (lb9 rfl) ?_ | (refine drawf TB_ok rfl (by kernel_rfl) (by kernel_rfl) hS (List.Sublist.refl _) (List.Sublist.refl _) ?_; intro w1 hS) | refine br_t (by assumption) ?_ | refine br_f (by assumption) ?_)
  (conv => whnf)
  refine fc_m (putValue_c bw _ L4 hW4 v ho hk A e _ (fun w' h' => hR w' (hS.callW h').nil) hS.ownF (by simp only [List.length_append, be_len]; omega)) ?_
  rintro u w5 ⟨L5, hW5, hS'⟩
  replace hS := hS.callW hS'
  repeat ((conv => whnf); first | (apply q_i; focus (intro w1 hS; (conv => whnf); first | exact ⟨rfl, rfl⟩ | ((refine ld_f hS 0 rfl rfl ?_); (conv => whnf); exact ⟨rfl, rfl⟩) | ((refine ldA_f hS 0 rfl rfl ?_); (conv => whnf); exact ⟨rfl, rfl⟩))) | (refine nw_f hS ?_; intro b w1 hS) | refine as_i hS ?_ | refine as_i (hS.subs (List.nil_sublist _) sb9) ?_ | refine as_i (hS.subs (List.Sublist.refl _) sb9) ?_ | refine bar_f hS ?_ | refine ld_f hS 0 rfl rfl ?_ | refine ldA_f hS 0 rfl rfl ?_ | (refine stN_f hS 0 rfl (lb9 rfl) rfl rfl ?_; (conv => whnf); intro w1 hS) | (refine stM_f hS 0 rfl (lb9 rfl) rfl ?_; (conv => whnf); intro w1 hS) | (refine drawf TB_ok rfl (by kernel_rfl) (by kernel_rfl) hS (List.Sublist.refl _) (List.Sublist.refl _) ?_; intro w1 hS) | refine br_t (by assumption) ?_ | refine br_f (by assumption) ?_)
  (conv => whnf)
  have h2 := hS.fr (List.Sublist.refl _)
  rw [List.append_nil] at h2
  exact ⟨L5, hW5, h2⟩
theorem putRegX_c (bw : Nat) (bs : List UInt8) (L : LM) (hW : Wr bw bs L) (x : Rx) (ho : okR x) (hm : mayR x = true) (hk : x.k = 4) (h : Hd) (ms : List Sm) (hxe : x.xs = ms.map Sm.s) (w : World) (hR : ∀ w', St (keys L) w w' [] → RdM w' h.A ms) (hS : St (keys L) w w L) (hn : bs.length ≤ 17592186044416) :
    Fc Tryz.prog 66 [.pointer (some ⟨bw, 0, none⟩), regV x.f h.A x.xs.length h.c] w fun u w' => ∃ L', Wr bw (bs ++ (ctxT x.f ++ be x.xs.length 1 ++ sbsT x.xs)) L' ∧ St (keys L) w w' L' := by
  rw [mayR4 hk, Bool.and_eq_true] at hm
  obtain ⟨hv, h8, he⟩ := regB_parts hm.2
  have hl : x.xs.length = ms.length := by rw [hxe, List.length_map]
  have := putReg_c bw bs L hW x.f (fun j hj => ⟨(ho.f j hj).1, mayVB_le hv j hj⟩) h.A h.c ms (by omega) (fun m hm' => by
    have hs : m.s ∈ x.xs := by rw [hxe]; exact List.mem_map_of_mem hm'
    exact ⟨ho.xs _ hs, (he _ hs).2, (hasB_dot (he _ hs).1).2.2⟩) w hR hS hn
  rwa [← hl, ← hxe] at this
theorem w32u_c (bw : Nat) (bs : List UInt8) (L : LM) (hW : Wr bw bs L) (n : Int) (h0 : 0 ≤ n) (h1 : n ≤ 4294967295) (w : World) (hS : St (keys L) w w L) (hn : bs.length ≤ 70368744177664) :
    Fc Tryz.prog 64 [.pointer (some ⟨bw, 0, none⟩), .int .u32 (IntKind.u32.wrap n)] w fun v w' => ∃ L', Wr bw (bs ++ be n 4) L' ∧ St (keys L) w w' L' := by
  rw [wrap_u32 h0 (by omega)]
  exact w32_c bw bs L hW n h0 h1 w hS hn
set_option maxHeartbeats 4000000 in
theorem put18_c (bw : Nat) (bs : List UInt8) (L : LM) (hW : Wr bw bs L) (x : Rx) (ho : okR x) (hc : checkR x = true) (h : Hd) (ms : List Sm) (w : World) (hR : ∀ w', St (keys L) w w' [] → MemR w' x h ms) (hS : St (keys L) w w L) (hn : bs.length ≤ 8796093022208) :
    Fc Tryz.prog 35 [.pointer (some ⟨bw, 0, none⟩), recV x h] w fun u w' => ∃ L', Wr bw (bs ++ recT x) L' ∧ St (keys L) w w' L' := by
  have hm := checkR_may hc
  have hxe := (hR w hS.nil).eq
  have hxl := (hR w hS.nil).len
  unfold recT
  rw [← List.append_assoc]
  rcases checkR_kinds hc with hk | hk | hk | hk | hk | hk | hk | hk
  · rw [restT1 hk]
    rw [mayR1 hk] at hm
    have g1 : (x.k == 1) = true := by rw [hk]; rfl
    have g2 : (x.k == 2) = false := by rw [hk]; rfl
    have g3 : (x.k == 3) = false := by rw [hk]; rfl
    have g4 : (x.k == 4) = false := by rw [hk]; rfl
    have g5 : (x.k == 5) = false := by rw [hk]; rfl
    have g6 : (x.k == 6) = false := by rw [hk]; rfl
    have g7 : (x.k == 7) = false := by rw [hk]; rfl
    have g8 : (x.k == 8) = false := by rw [hk]; rfl
    have hr : x.r < 8 := of_decide_eq_true hm
    refine fc_i TB_ok Tryz.func35 rfl (by kernel_rfl) ?_
    have hS : Sf (keys L) w w (L ++ []) [] := ⟨by simpa using hS⟩
    repeat ((conv => whnf); first | (apply q_i; focus (intro w1 hS; (conv => whnf); first | exact ⟨rfl, rfl⟩ | ((refine ld_f hS 0 rfl rfl ?_); (conv => whnf); exact ⟨rfl, rfl⟩) | ((refine ldA_f hS 0 rfl rfl ?_); (conv => whnf); exact ⟨rfl, rfl⟩) | ((refine ldN_f hS 0 rfl (lb9 rfl) ?_); (conv => whnf); exact ⟨rfl, rfl⟩) | ((refine br_t (by assumption) ?_); (conv => whnf); exact ⟨rfl, rfl⟩) | ((refine br_f (by assumption) ?_); (conv => whnf); exact ⟨rfl, rfl⟩))) | (refine nw_f hS ?_; intro b w1 hS) | refine as_i hS ?_ | refine as_i (hS.subs (List.nil_sublist _) sb9) ?_ | refine as_i (hS.subs (List.Sublist.refl _) sb9) ?_ | refine bar_f hS ?_ | refine ld_f hS 0 rfl rfl ?_ | refine ldA_f hS 0 rfl rfl ?_ | (refine stN_f hS 0 rfl (lb9 rfl) rfl rfl ?_; (conv => whnf); intro w1 hS) | (refine stM_f hS 0 rfl (lb9 rfl) rfl ?_; (conv => whnf); intro w1 hS) | refine ldN_f hS 0 rfl (lb9 rfl) ?_ | refine br_t (by assumption) ?_ | refine br_f (by assumption) ?_ | (refine drawf TB_ok rfl (by kernel_rfl) (by kernel_rfl) hS (List.Sublist.refl _) (List.Sublist.refl _) ?_; intro w1 hS) | refine br_t (by assumption) ?_ | refine br_f (by assumption) ?_)
    (conv => whnf)
    refine fc_m (w8_c _ _ L hW x.k ho.k.1 (by have := ho.k; omega) _ hS.ownF (by omega)) ?_
    rintro u w3 ⟨L0, hW0, hS'⟩
    replace hS := hS.callW hS'
    repeat ((conv => whnf); first | (apply q_i; focus (intro w1 hS; (conv => whnf); first | exact ⟨rfl, rfl⟩ | ((refine ld_f hS 0 rfl rfl ?_); (conv => whnf); exact ⟨rfl, rfl⟩) | ((refine ldA_f hS 0 rfl rfl ?_); (conv => whnf); exact ⟨rfl, rfl⟩) | ((refine ldN_f hS 0 rfl (lb9 rfl) ?_); (conv => whnf); exact ⟨rfl, rfl⟩) | ((refine br_t (by assumption) ?_); (conv => whnf); exact ⟨rfl, rfl⟩) | ((refine br_f (by assumption) ?_); (conv => whnf); exact ⟨rfl, rfl⟩))) | (refine nw_f hS ?_; intro b w1 hS) | refine as_i hS ?_ | refine as_i (hS.subs (List.nil_sublist _) sb9) ?_ | refine as_i (hS.subs (List.Sublist.refl _) sb9) ?_ | refine bar_f hS ?_ | refine ld_f hS 0 rfl rfl ?_ | refine ldA_f hS 0 rfl rfl ?_ | (refine stN_f hS 0 rfl (lb9 rfl) rfl rfl ?_; (conv => whnf); intro w1 hS) | (refine stM_f hS 0 rfl (lb9 rfl) rfl ?_; (conv => whnf); intro w1 hS) | refine ldN_f hS 0 rfl (lb9 rfl) ?_ | refine br_t (by assumption) ?_ | refine br_f (by assumption) ?_ | (refine drawf TB_ok rfl (by kernel_rfl) (by kernel_rfl) hS (List.Sublist.refl _) (List.Sublist.refl _) ?_; intro w1 hS) | refine br_t (by assumption) ?_ | refine br_f (by assumption) ?_)
    (conv => whnf)
    refine fc_m (w8_c _ _ L0 hW0 x.r ho.r.1 (by have := ho.r; omega) _ hS.ownF (by simp only [List.length_append, be_len]; omega)) ?_
    rintro u w3 ⟨L1, hW1, hS'⟩
    replace hS := hS.callW hS'
    repeat ((conv => whnf); first | (apply q_i; focus (intro w1 hS; (conv => whnf); first | exact ⟨rfl, rfl⟩ | ((refine ld_f hS 0 rfl rfl ?_); (conv => whnf); exact ⟨rfl, rfl⟩) | ((refine ldA_f hS 0 rfl rfl ?_); (conv => whnf); exact ⟨rfl, rfl⟩))) | (refine nw_f hS ?_; intro b w1 hS) | refine as_i hS ?_ | refine as_i (hS.subs (List.nil_sublist _) sb9) ?_ | refine as_i (hS.subs (List.Sublist.refl _) sb9) ?_ | refine bar_f hS ?_ | refine ld_f hS 0 rfl rfl ?_ | refine ldA_f hS 0 rfl rfl ?_ | (refine stN_f hS 0 rfl (lb9 rfl) rfl rfl ?_; (conv => whnf); intro w1 hS) | (refine stM_f hS 0 rfl (lb9 rfl) rfl ?_; (conv => whnf); intro w1 hS) | (refine drawf TB_ok rfl (by kernel_rfl) (by kernel_rfl) hS (List.Sublist.refl _) (List.Sublist.refl _) ?_; intro w1 hS) | refine br_t (by assumption) ?_ | refine br_f (by assumption) ?_)
    (conv => whnf)
    have h2 := hS.fr (List.Sublist.refl _)
    rw [List.append_nil] at h2
    refine ⟨L1, ?_, h2⟩
    simpa only [List.append_assoc] using hW1
  · rw [restT2 hk]
    rw [mayR2 hk] at hm
    have g1 : (x.k == 1) = false := by rw [hk]; rfl
    have g2 : (x.k == 2) = true := by rw [hk]; rfl
    have g3 : (x.k == 3) = false := by rw [hk]; rfl
    have g4 : (x.k == 4) = false := by rw [hk]; rfl
    have g5 : (x.k == 5) = false := by rw [hk]; rfl
    have g6 : (x.k == 6) = false := by rw [hk]; rfl
    have g7 : (x.k == 7) = false := by rw [hk]; rfl
    have g8 : (x.k == 8) = false := by rw [hk]; rfl
    refine fc_i TB_ok Tryz.func35 rfl (by kernel_rfl) ?_
    have hS : Sf (keys L) w w (L ++ []) [] := ⟨by simpa using hS⟩
    repeat ((conv => whnf); first | (apply q_i; focus (intro w1 hS; (conv => whnf); first | exact ⟨rfl, rfl⟩ | ((refine ld_f hS 0 rfl rfl ?_); (conv => whnf); exact ⟨rfl, rfl⟩) | ((refine ldA_f hS 0 rfl rfl ?_); (conv => whnf); exact ⟨rfl, rfl⟩) | ((refine ldN_f hS 0 rfl (lb9 rfl) ?_); (conv => whnf); exact ⟨rfl, rfl⟩) | ((refine br_t (by assumption) ?_); (conv => whnf); exact ⟨rfl, rfl⟩) | ((refine br_f (by assumption) ?_); (conv => whnf); exact ⟨rfl, rfl⟩))) | (refine nw_f hS ?_; intro b w1 hS) | refine as_i hS ?_ | refine as_i (hS.subs (List.nil_sublist _) sb9) ?_ | refine as_i (hS.subs (List.Sublist.refl _) sb9) ?_ | refine bar_f hS ?_ | refine ld_f hS 0 rfl rfl ?_ | refine ldA_f hS 0 rfl rfl ?_ | (refine stN_f hS 0 rfl (lb9 rfl) rfl rfl ?_; (conv => whnf); intro w1 hS) | (refine stM_f hS 0 rfl (lb9 rfl) rfl ?_; (conv => whnf); intro w1 hS) | refine ldN_f hS 0 rfl (lb9 rfl) ?_ | refine br_t (by assumption) ?_ | refine br_f (by assumption) ?_ | (refine drawf TB_ok rfl (by kernel_rfl) (by kernel_rfl) hS (List.Sublist.refl _) (List.Sublist.refl _) ?_; intro w1 hS) | refine br_t (by assumption) ?_ | refine br_f (by assumption) ?_)
    (conv => whnf)
    refine fc_m (w8_c _ _ L hW x.k ho.k.1 (by have := ho.k; omega) _ hS.ownF (by omega)) ?_
    rintro u w3 ⟨L0, hW0, hS'⟩
    replace hS := hS.callW hS'
    repeat ((conv => whnf); first | (apply q_i; focus (intro w1 hS; (conv => whnf); first | exact ⟨rfl, rfl⟩ | ((refine ld_f hS 0 rfl rfl ?_); (conv => whnf); exact ⟨rfl, rfl⟩) | ((refine ldA_f hS 0 rfl rfl ?_); (conv => whnf); exact ⟨rfl, rfl⟩) | ((refine ldN_f hS 0 rfl (lb9 rfl) ?_); (conv => whnf); exact ⟨rfl, rfl⟩) | ((refine br_t (by assumption) ?_); (conv => whnf); exact ⟨rfl, rfl⟩) | ((refine br_f (by assumption) ?_); (conv => whnf); exact ⟨rfl, rfl⟩))) | (refine nw_f hS ?_; intro b w1 hS) | refine as_i hS ?_ | refine as_i (hS.subs (List.nil_sublist _) sb9) ?_ | refine as_i (hS.subs (List.Sublist.refl _) sb9) ?_ | refine bar_f hS ?_ | refine ld_f hS 0 rfl rfl ?_ | refine ldA_f hS 0 rfl rfl ?_ | (refine stN_f hS 0 rfl (lb9 rfl) rfl rfl ?_; (conv => whnf); intro w1 hS) | (refine stM_f hS 0 rfl (lb9 rfl) rfl ?_; (conv => whnf); intro w1 hS) | refine ldN_f hS 0 rfl (lb9 rfl) ?_ | refine br_t (by assumption) ?_ | refine br_f (by assumption) ?_ | (refine drawf TB_ok rfl (by kernel_rfl) (by kernel_rfl) hS (List.Sublist.refl _) (List.Sublist.refl _) ?_; intro w1 hS) | refine br_t (by assumption) ?_ | refine br_f (by assumption) ?_)
    refine loop_i TB_ok (fun i : Nat => [(22, .int .i64 i)]) (fun i w' => i ≤ 3 ∧ ∃ L', Wr bw (bs ++ be x.k 1 ++ ([x.n0, x.n1, x.n2].take i).flatMap (fun n => be n 4)) L' ∧ Sf (keys L) w w' (L' ++ []) [_]) (fun i => 3 - i) 0 rfl ⟨Nat.zero_le _, L0, by simpa using hW0, hS⟩ ?_
    rintro i us w4 ⟨hi, L1, hW1, hS⟩
    (conv => whnf)
    refine br_i (fun hb => ?_) (fun hb => ?_)
    · have hlt : i < 3 := by have := of_decide_eq_true hb; omega
      have hni : 0 ≤ l3 x.n0 x.n1 x.n2 i ∧ l3 x.n0 x.n1 x.n2 i ≤ 4294967295 := by
        rcases (show i = 0 ∨ i = 1 ∨ i = 2 by omega) with rfl | rfl | rfl
        · exact ho.n0
        · exact ho.n1
        · exact ho.n2
      have hln : (([x.n0, x.n1, x.n2].take i).flatMap (fun n => be n 4)).length ≤ 12 := by
        rcases (show i = 0 ∨ i = 1 ∨ i = 2 by omega) with rfl | rfl | rfl <;> simp [be_len]
      have hstep : ([x.n0, x.n1, x.n2].take (i + 1)).flatMap (fun n => be n 4) = ([x.n0, x.n1, x.n2].take i).flatMap (fun n => be n 4) ++ be (l3 x.n0 x.n1 x.n2 i) 4 := by
        rcases (show i = 0 ∨ i = 1 ∨ i = 2 by omega) with rfl | rfl | rfl <;> simp [l3]
      repeat ((conv => whnf); first | (apply q_i; focus (intro w1 hS; (conv => whnf); first | exact ⟨rfl, rfl⟩ | ((refine ld_f hS 0 rfl rfl ?_); (conv => whnf); exact ⟨rfl, rfl⟩) | ((refine ldA_f hS 0 rfl rfl ?_); (conv => whnf); exact ⟨rfl, rfl⟩) | ((refine idx3 (a := x.n0) (q := x.n1) (c := x.n2) hlt ?_); (conv => whnf); exact ⟨rfl, rfl⟩))) | (refine nw_f hS ?_; intro b w1 hS) | refine as_i hS ?_ | refine as_i (hS.subs (List.nil_sublist _) sb9) ?_ | refine as_i (hS.subs (List.Sublist.refl _) sb9) ?_ | refine bar_f hS ?_ | refine ld_f hS 0 rfl rfl ?_ | refine ldA_f hS 0 rfl rfl ?_ | (refine stN_f hS 0 rfl (lb9 rfl) rfl rfl ?_; (conv => whnf); intro w1 hS) | (refine stM_f hS 0 rfl (lb9 rfl) rfl ?_; (conv => whnf); intro w1 hS) | refine idx3 (a := x.n0) (q := x.n1) (c := x.n2) hlt ?_ | (refine drawf TB_ok rfl (by kernel_rfl) (by kernel_rfl) hS (List.Sublist.refl _) (List.Sublist.refl _) ?_; intro w1 hS) | refine br_t (by assumption) ?_ | refine br_f (by assumption) ?_)
      (conv => whnf)
      refine fc_m (w32_c _ _ L1 hW1 (l3 x.n0 x.n1 x.n2 i) hni.1 hni.2 _ hS.ownF (by simp only [List.length_append, be_len]; omega)) ?_
      rintro u w5 ⟨L2, hW2, hS'⟩
      replace hS := hS.callW hS'
      repeat ((conv => whnf); first | (apply q_i; focus (intro w1 hS; (conv => whnf); first | exact ⟨rfl, rfl⟩ | ((refine ld_f hS 0 rfl rfl ?_); (conv => whnf); exact ⟨rfl, rfl⟩) | ((refine ldA_f hS 0 rfl rfl ?_); (conv => whnf); exact ⟨rfl, rfl⟩))) | (refine nw_f hS ?_; intro b w1 hS) | refine as_i hS ?_ | refine as_i (hS.subs (List.nil_sublist _) sb9) ?_ | refine as_i (hS.subs (List.Sublist.refl _) sb9) ?_ | refine bar_f hS ?_ | refine ld_f hS 0 rfl rfl ?_ | refine ldA_f hS 0 rfl rfl ?_ | (refine stN_f hS 0 rfl (lb9 rfl) rfl rfl ?_; (conv => whnf); intro w1 hS) | (refine stM_f hS 0 rfl (lb9 rfl) rfl ?_; (conv => whnf); intro w1 hS) | (refine drawf TB_ok rfl (by kernel_rfl) (by kernel_rfl) hS (List.Sublist.refl _) (List.Sublist.refl _) ?_; intro w1 hS) | refine br_t (by assumption) ?_ | refine br_f (by assumption) ?_)
      refine ⟨rfl, i + 1, ?_, ⟨by omega, L2, ?_, hS⟩, by omega⟩
      · rw [wi hlt (by omega)]
        rfl
      · rw [hstep, ← List.append_assoc]
        exact hW2
    · have hge : i = 3 := by have := of_decide_eq_false hb; omega
      subst hge
      repeat ((conv => whnf); first | (apply q_i; focus (intro w1 hS; (conv => whnf); first | exact ⟨rfl, rfl⟩ | ((refine ld_f hS 0 rfl rfl ?_); (conv => whnf); exact ⟨rfl, rfl⟩) | ((refine ldA_f hS 0 rfl rfl ?_); (conv => whnf); exact ⟨rfl, rfl⟩))) | (refine nw_f hS ?_; intro b w1 hS) | refine as_i hS ?_ | refine as_i (hS.subs (List.nil_sublist _) sb9) ?_ | refine as_i (hS.subs (List.Sublist.refl _) sb9) ?_ | refine bar_f hS ?_ | refine ld_f hS 0 rfl rfl ?_ | refine ldA_f hS 0 rfl rfl ?_ | (refine stN_f hS 0 rfl (lb9 rfl) rfl rfl ?_; (conv => whnf); intro w1 hS) | (refine stM_f hS 0 rfl (lb9 rfl) rfl ?_; (conv => whnf); intro w1 hS) | (refine drawf TB_ok rfl (by kernel_rfl) (by kernel_rfl) hS (List.Sublist.refl _) (List.Sublist.refl _) ?_; intro w1 hS) | refine br_t (by assumption) ?_ | refine br_f (by assumption) ?_)
      (conv => whnf)
      have h2 := hS.fr (List.Sublist.refl _)
      rw [List.append_nil] at h2
      exact ⟨L1, by simpa using hW1, h2⟩
  · rw [restT3 hk]
    rw [mayR3 hk] at hm
    have g1 : (x.k == 1) = false := by rw [hk]; rfl
    have g2 : (x.k == 2) = false := by rw [hk]; rfl
    have g3 : (x.k == 3) = true := by rw [hk]; rfl
    have g4 : (x.k == 4) = false := by rw [hk]; rfl
    have g5 : (x.k == 5) = false := by rw [hk]; rfl
    have g6 : (x.k == 6) = false := by rw [hk]; rfl
    have g7 : (x.k == 7) = false := by rw [hk]; rfl
    have g8 : (x.k == 8) = false := by rw [hk]; rfl
    rw [Bool.and_eq_true, inB_iff] at hm
    refine fc_i TB_ok Tryz.func35 rfl (by kernel_rfl) ?_
    have hS : Sf (keys L) w w (L ++ []) [] := ⟨by simpa using hS⟩
    repeat ((conv => whnf); first | (apply q_i; focus (intro w1 hS; (conv => whnf); first | exact ⟨rfl, rfl⟩ | ((refine ld_f hS 0 rfl rfl ?_); (conv => whnf); exact ⟨rfl, rfl⟩) | ((refine ldA_f hS 0 rfl rfl ?_); (conv => whnf); exact ⟨rfl, rfl⟩) | ((refine ldN_f hS 0 rfl (lb9 rfl) ?_); (conv => whnf); exact ⟨rfl, rfl⟩) | ((refine br_t (by assumption) ?_); (conv => whnf); exact ⟨rfl, rfl⟩) | ((refine br_f (by assumption) ?_); (conv => whnf); exact ⟨rfl, rfl⟩))) | (refine nw_f hS ?_; intro b w1 hS) | refine as_i hS ?_ | refine as_i (hS.subs (List.nil_sublist _) sb9) ?_ | refine as_i (hS.subs (List.Sublist.refl _) sb9) ?_ | refine bar_f hS ?_ | refine ld_f hS 0 rfl rfl ?_ | refine ldA_f hS 0 rfl rfl ?_ | (refine stN_f hS 0 rfl (lb9 rfl) rfl rfl ?_; (conv => whnf); intro w1 hS) | (refine stM_f hS 0 rfl (lb9 rfl) rfl ?_; (conv => whnf); intro w1 hS) | refine ldN_f hS 0 rfl (lb9 rfl) ?_ | refine br_t (by assumption) ?_ | refine br_f (by assumption) ?_ | (refine drawf TB_ok rfl (by kernel_rfl) (by kernel_rfl) hS (List.Sublist.refl _) (List.Sublist.refl _) ?_; intro w1 hS) | refine br_t (by assumption) ?_ | refine br_f (by assumption) ?_)
    (conv => whnf)
    refine fc_m (w8_c _ _ L hW x.k ho.k.1 (by have := ho.k; omega) _ hS.ownF (by omega)) ?_
    rintro u w3 ⟨L0, hW0, hS'⟩
    replace hS := hS.callW hS'
    repeat ((conv => whnf); first | (apply q_i; focus (intro w1 hS; (conv => whnf); first | exact ⟨rfl, rfl⟩ | ((refine ld_f hS 0 rfl rfl ?_); (conv => whnf); exact ⟨rfl, rfl⟩) | ((refine ldA_f hS 0 rfl rfl ?_); (conv => whnf); exact ⟨rfl, rfl⟩) | ((refine ldN_f hS 0 rfl (lb9 rfl) ?_); (conv => whnf); exact ⟨rfl, rfl⟩) | ((refine br_t (by assumption) ?_); (conv => whnf); exact ⟨rfl, rfl⟩) | ((refine br_f (by assumption) ?_); (conv => whnf); exact ⟨rfl, rfl⟩))) | (refine nw_f hS ?_; intro b w1 hS) | refine as_i hS ?_ | refine as_i (hS.subs (List.nil_sublist _) sb9) ?_ | refine as_i (hS.subs (List.Sublist.refl _) sb9) ?_ | refine bar_f hS ?_ | refine ld_f hS 0 rfl rfl ?_ | refine ldA_f hS 0 rfl rfl ?_ | (refine stN_f hS 0 rfl (lb9 rfl) rfl rfl ?_; (conv => whnf); intro w1 hS) | (refine stM_f hS 0 rfl (lb9 rfl) rfl ?_; (conv => whnf); intro w1 hS) | refine ldN_f hS 0 rfl (lb9 rfl) ?_ | refine br_t (by assumption) ?_ | refine br_f (by assumption) ?_ | (refine drawf TB_ok rfl (by kernel_rfl) (by kernel_rfl) hS (List.Sublist.refl _) (List.Sublist.refl _) ?_; intro w1 hS) | refine br_t (by assumption) ?_ | refine br_f (by assumption) ?_)
    (conv => whnf)
    refine fc_m (w8_c _ _ L0 hW0 x.rk ho.rk.1 (by have := ho.rk; omega) _ hS.ownF (by simp only [List.length_append, be_len]; omega)) ?_
    rintro u w3 ⟨L1, hW1, hS'⟩
    replace hS := hS.callW hS'
    repeat ((conv => whnf); first | (apply q_i; focus (intro w1 hS; (conv => whnf); first | exact ⟨rfl, rfl⟩ | ((refine ld_f hS 0 rfl rfl ?_); (conv => whnf); exact ⟨rfl, rfl⟩) | ((refine ldA_f hS 0 rfl rfl ?_); (conv => whnf); exact ⟨rfl, rfl⟩) | ((refine ldN_f hS 0 rfl (lb9 rfl) ?_); (conv => whnf); exact ⟨rfl, rfl⟩) | ((refine br_t (by assumption) ?_); (conv => whnf); exact ⟨rfl, rfl⟩) | ((refine br_f (by assumption) ?_); (conv => whnf); exact ⟨rfl, rfl⟩))) | (refine nw_f hS ?_; intro b w1 hS) | refine as_i hS ?_ | refine as_i (hS.subs (List.nil_sublist _) sb9) ?_ | refine as_i (hS.subs (List.Sublist.refl _) sb9) ?_ | refine bar_f hS ?_ | refine ld_f hS 0 rfl rfl ?_ | refine ldA_f hS 0 rfl rfl ?_ | (refine stN_f hS 0 rfl (lb9 rfl) rfl rfl ?_; (conv => whnf); intro w1 hS) | (refine stM_f hS 0 rfl (lb9 rfl) rfl ?_; (conv => whnf); intro w1 hS) | refine ldN_f hS 0 rfl (lb9 rfl) ?_ | refine br_t (by assumption) ?_ | refine br_f (by assumption) ?_ | (refine drawf TB_ok rfl (by kernel_rfl) (by kernel_rfl) hS (List.Sublist.refl _) (List.Sublist.refl _) ?_; intro w1 hS) | refine br_t (by assumption) ?_ | refine br_f (by assumption) ?_)
    (conv => whnf)
    refine fc_m (w32_c _ _ L1 hW1 x.ra ho.ra.1 ho.ra.2 _ hS.ownF (by simp only [List.length_append, be_len]; omega)) ?_
    rintro u w3 ⟨L2, hW2, hS'⟩
    replace hS := hS.callW hS'
    repeat ((conv => whnf); first | (apply q_i; focus (intro w1 hS; (conv => whnf); first | exact ⟨rfl, rfl⟩ | ((refine ld_f hS 0 rfl rfl ?_); (conv => whnf); exact ⟨rfl, rfl⟩) | ((refine ldA_f hS 0 rfl rfl ?_); (conv => whnf); exact ⟨rfl, rfl⟩) | ((refine ldN_f hS 0 rfl (lb9 rfl) ?_); (conv => whnf); exact ⟨rfl, rfl⟩) | ((refine br_t (by assumption) ?_); (conv => whnf); exact ⟨rfl, rfl⟩) | ((refine br_f (by assumption) ?_); (conv => whnf); exact ⟨rfl, rfl⟩))) | (refine nw_f hS ?_; intro b w1 hS) | refine as_i hS ?_ | refine as_i (hS.subs (List.nil_sublist _) sb9) ?_ | refine as_i (hS.subs (List.Sublist.refl _) sb9) ?_ | refine bar_f hS ?_ | refine ld_f hS 0 rfl rfl ?_ | refine ldA_f hS 0 rfl rfl ?_ | (refine stN_f hS 0 rfl (lb9 rfl) rfl rfl ?_; (conv => whnf); intro w1 hS) | (refine stM_f hS 0 rfl (lb9 rfl) rfl ?_; (conv => whnf); intro w1 hS) | refine ldN_f hS 0 rfl (lb9 rfl) ?_ | refine br_t (by assumption) ?_ | refine br_f (by assumption) ?_ | (refine drawf TB_ok rfl (by kernel_rfl) (by kernel_rfl) hS (List.Sublist.refl _) (List.Sublist.refl _) ?_; intro w1 hS) | refine br_t (by assumption) ?_ | refine br_f (by assumption) ?_)
    (conv => whnf)
    refine fc_m (w32u_c _ _ L2 hW2 x.rq hm.2.1 (by omega) _ hS.ownF (by simp only [List.length_append, be_len]; omega)) ?_
    rintro u w3 ⟨L3, hW3, hS'⟩
    replace hS := hS.callW hS'
    repeat ((conv => whnf); first | (apply q_i; focus (intro w1 hS; (conv => whnf); first | exact ⟨rfl, rfl⟩ | ((refine ld_f hS 0 rfl rfl ?_); (conv => whnf); exact ⟨rfl, rfl⟩) | ((refine ldA_f hS 0 rfl rfl ?_); (conv => whnf); exact ⟨rfl, rfl⟩))) | (refine nw_f hS ?_; intro b w1 hS) | refine as_i hS ?_ | refine as_i (hS.subs (List.nil_sublist _) sb9) ?_ | refine as_i (hS.subs (List.Sublist.refl _) sb9) ?_ | refine bar_f hS ?_ | refine ld_f hS 0 rfl rfl ?_ | refine ldA_f hS 0 rfl rfl ?_ | (refine stN_f hS 0 rfl (lb9 rfl) rfl rfl ?_; (conv => whnf); intro w1 hS) | (refine stM_f hS 0 rfl (lb9 rfl) rfl ?_; (conv => whnf); intro w1 hS) | (refine drawf TB_ok rfl (by kernel_rfl) (by kernel_rfl) hS (List.Sublist.refl _) (List.Sublist.refl _) ?_; intro w1 hS) | refine br_t (by assumption) ?_ | refine br_f (by assumption) ?_)
    (conv => whnf)
    have h2 := hS.fr (List.Sublist.refl _)
    rw [List.append_nil] at h2
    refine ⟨L3, ?_, h2⟩
    simpa only [List.append_assoc] using hW3
  · rw [restT4 hk]
    rw [mayR4 hk] at hm
    have g1 : (x.k == 1) = false := by rw [hk]; rfl
    have g2 : (x.k == 2) = false := by rw [hk]; rfl
    have g3 : (x.k == 3) = false := by rw [hk]; rfl
    have g4 : (x.k == 4) = true := by rw [hk]; rfl
    have g5 : (x.k == 5) = false := by rw [hk]; rfl
    have g6 : (x.k == 6) = false := by rw [hk]; rfl
    have g7 : (x.k == 7) = false := by rw [hk]; rfl
    have g8 : (x.k == 8) = false := by rw [hk]; rfl
    rw [Bool.and_eq_true] at hm
    have hp := namedB_len hm.1
    have hpt : (pathT x.p).length ≤ 37 := by unfold pathT; rw [List.length_append, be_len]; omega
    refine fc_i TB_ok Tryz.func35 rfl (by kernel_rfl) ?_
    have hS : Sf (keys L) w w (L ++ []) [] := ⟨by simpa using hS⟩
    repeat ((conv => whnf); first | (apply q_i; focus (intro w1 hS; (conv => whnf); first | exact ⟨rfl, rfl⟩ | ((refine ld_f hS 0 rfl rfl ?_); (conv => whnf); exact ⟨rfl, rfl⟩) | ((refine ldA_f hS 0 rfl rfl ?_); (conv => whnf); exact ⟨rfl, rfl⟩) | ((refine ldN_f hS 0 rfl (lb9 rfl) ?_); (conv => whnf); exact ⟨rfl, rfl⟩) | ((refine br_t (by assumption) ?_); (conv => whnf); exact ⟨rfl, rfl⟩) | ((refine br_f (by assumption) ?_); (conv => whnf); exact ⟨rfl, rfl⟩))) | (refine nw_f hS ?_; intro b w1 hS) | refine as_i hS ?_ | refine as_i (hS.subs (List.nil_sublist _) sb9) ?_ | refine as_i (hS.subs (List.Sublist.refl _) sb9) ?_ | refine bar_f hS ?_ | refine ld_f hS 0 rfl rfl ?_ | refine ldA_f hS 0 rfl rfl ?_ | (refine stN_f hS 0 rfl (lb9 rfl) rfl rfl ?_; (conv => whnf); intro w1 hS) | (refine stM_f hS 0 rfl (lb9 rfl) rfl ?_; (conv => whnf); intro w1 hS) | refine ldN_f hS 0 rfl (lb9 rfl) ?_ | refine br_t (by assumption) ?_ | refine br_f (by assumption) ?_ | (refine drawf TB_ok rfl (by kernel_rfl) (by kernel_rfl) hS (List.Sublist.refl _) (List.Sublist.refl _) ?_; intro w1 hS) | refine br_t (by assumption) ?_ | refine br_f (by assumption) ?_)
    (conv => whnf)
    refine fc_m (w8_c _ _ L hW x.k ho.k.1 (by have := ho.k; omega) _ hS.ownF (by omega)) ?_
    rintro u w3 ⟨L0, hW0, hS'⟩
    replace hS := hS.callW hS'
    repeat ((conv => whnf); first | (apply q_i; focus (intro w1 hS; (conv => whnf); first | exact ⟨rfl, rfl⟩ | ((refine ld_f hS 0 rfl rfl ?_); (conv => whnf); exact ⟨rfl, rfl⟩) | ((refine ldA_f hS 0 rfl rfl ?_); (conv => whnf); exact ⟨rfl, rfl⟩) | ((refine ldN_f hS 0 rfl (lb9 rfl) ?_); (conv => whnf); exact ⟨rfl, rfl⟩) | ((refine br_t (by assumption) ?_); (conv => whnf); exact ⟨rfl, rfl⟩) | ((refine br_f (by assumption) ?_); (conv => whnf); exact ⟨rfl, rfl⟩))) | (refine nw_f hS ?_; intro b w1 hS) | refine as_i hS ?_ | refine as_i (hS.subs (List.nil_sublist _) sb9) ?_ | refine as_i (hS.subs (List.Sublist.refl _) sb9) ?_ | refine bar_f hS ?_ | refine ld_f hS 0 rfl rfl ?_ | refine ldA_f hS 0 rfl rfl ?_ | (refine stN_f hS 0 rfl (lb9 rfl) rfl rfl ?_; (conv => whnf); intro w1 hS) | (refine stM_f hS 0 rfl (lb9 rfl) rfl ?_; (conv => whnf); intro w1 hS) | refine ldN_f hS 0 rfl (lb9 rfl) ?_ | refine br_t (by assumption) ?_ | refine br_f (by assumption) ?_ | (refine drawf TB_ok rfl (by kernel_rfl) (by kernel_rfl) hS (List.Sublist.refl _) (List.Sublist.refl _) ?_; intro w1 hS) | refine br_t (by assumption) ?_ | refine br_f (by assumption) ?_)
    (conv => whnf)
    refine fc_m (putPath_c _ _ L0 hW0 x.p (by omega) _ hS.ownF (by simp only [List.length_append, be_len]; omega)) ?_
    rintro u w3 ⟨L1, hW1, hS'⟩
    replace hS := hS.callW hS'
    repeat ((conv => whnf); first | (apply q_i; focus (intro w1 hS; (conv => whnf); first | exact ⟨rfl, rfl⟩ | ((refine ld_f hS 0 rfl rfl ?_); (conv => whnf); exact ⟨rfl, rfl⟩) | ((refine ldA_f hS 0 rfl rfl ?_); (conv => whnf); exact ⟨rfl, rfl⟩) | ((refine ldN_f hS 0 rfl (lb9 rfl) ?_); (conv => whnf); exact ⟨rfl, rfl⟩) | ((refine br_t (by assumption) ?_); (conv => whnf); exact ⟨rfl, rfl⟩) | ((refine br_f (by assumption) ?_); (conv => whnf); exact ⟨rfl, rfl⟩))) | (refine nw_f hS ?_; intro b w1 hS) | refine as_i hS ?_ | refine as_i (hS.subs (List.nil_sublist _) sb9) ?_ | refine as_i (hS.subs (List.Sublist.refl _) sb9) ?_ | refine bar_f hS ?_ | refine ld_f hS 0 rfl rfl ?_ | refine ldA_f hS 0 rfl rfl ?_ | (refine stN_f hS 0 rfl (lb9 rfl) rfl rfl ?_; (conv => whnf); intro w1 hS) | (refine stM_f hS 0 rfl (lb9 rfl) rfl ?_; (conv => whnf); intro w1 hS) | refine ldN_f hS 0 rfl (lb9 rfl) ?_ | refine br_t (by assumption) ?_ | refine br_f (by assumption) ?_ | (refine drawf TB_ok rfl (by kernel_rfl) (by kernel_rfl) hS (List.Sublist.refl _) (List.Sublist.refl _) ?_; intro w1 hS) | refine br_t (by assumption) ?_ | refine br_f (by assumption) ?_)
    (conv => whnf)
    refine fc_m (putRegX_c _ _ L1 hW1 x ho (by rw [mayR4 hk, Bool.and_eq_true]; exact hm) hk h ms hxe _ (fun w' h' => (hR w' (hS.callW h').nil).l) hS.ownF (by simp only [List.length_append, be_len]; omega)) ?_
    rintro u w3 ⟨L2, hW2, hS'⟩
    replace hS := hS.callW hS'
    repeat ((conv => whnf); first | (apply q_i; focus (intro w1 hS; (conv => whnf); first | exact ⟨rfl, rfl⟩ | ((refine ld_f hS 0 rfl rfl ?_); (conv => whnf); exact ⟨rfl, rfl⟩) | ((refine ldA_f hS 0 rfl rfl ?_); (conv => whnf); exact ⟨rfl, rfl⟩))) | (refine nw_f hS ?_; intro b w1 hS) | refine as_i hS ?_ | refine as_i (hS.subs (List.nil_sublist _) sb9) ?_ | refine as_i (hS.subs (List.Sublist.refl _) sb9) ?_ | refine bar_f hS ?_ | refine ld_f hS 0 rfl rfl ?_ | refine ldA_f hS 0 rfl rfl ?_ | (refine stN_f hS 0 rfl (lb9 rfl) rfl rfl ?_; (conv => whnf); intro w1 hS) | (refine stM_f hS 0 rfl (lb9 rfl) rfl ?_; (conv => whnf); intro w1 hS) | (refine drawf TB_ok rfl (by kernel_rfl) (by kernel_rfl) hS (List.Sublist.refl _) (List.Sublist.refl _) ?_; intro w1 hS) | refine br_t (by assumption) ?_ | refine br_f (by assumption) ?_)
    (conv => whnf)
    have h2 := hS.fr (List.Sublist.refl _)
    rw [List.append_nil] at h2
    refine ⟨L2, ?_, h2⟩
    simpa only [List.append_assoc, hxe, List.length_map] using hW2
  · rw [restT5 hk]
    rw [mayR5 hk] at hm
    have g1 : (x.k == 1) = false := by rw [hk]; rfl
    have g2 : (x.k == 2) = false := by rw [hk]; rfl
    have g3 : (x.k == 3) = false := by rw [hk]; rfl
    have g4 : (x.k == 4) = false := by rw [hk]; rfl
    have g5 : (x.k == 5) = true := by rw [hk]; rfl
    have g6 : (x.k == 6) = false := by rw [hk]; rfl
    have g7 : (x.k == 7) = false := by rw [hk]; rfl
    have g8 : (x.k == 8) = false := by rw [hk]; rfl
    rw [Bool.and_eq_true] at hm
    have hp := namedB_len hm.1
    have hpt : (pathT x.p).length ≤ 37 := by unfold pathT; rw [List.length_append, be_len]; omega
    have hvk : okV x.v = true := by have := hm.2; unfold verB at this; simp only [Bool.and_eq_true] at this; exact this.2.2.2.2
    refine fc_i TB_ok Tryz.func35 rfl (by kernel_rfl) ?_
    have hS : Sf (keys L) w w (L ++ []) [] := ⟨by simpa using hS⟩
    repeat ((conv => whnf); first | (apply q_i; focus (intro w1 hS; (conv => whnf); first | exact ⟨rfl, rfl⟩ | ((refine ld_f hS 0 rfl rfl ?_); (conv => whnf); exact ⟨rfl, rfl⟩) | ((refine ldA_f hS 0 rfl rfl ?_); (conv => whnf); exact ⟨rfl, rfl⟩) | ((refine ldN_f hS 0 rfl (lb9 rfl) ?_); (conv => whnf); exact ⟨rfl, rfl⟩) | ((refine br_t (by assumption) ?_); (conv => whnf); exact ⟨rfl, rfl⟩) | ((refine br_f (by assumption) ?_); (conv => whnf); exact ⟨rfl, rfl⟩))) | (refine nw_f hS ?_; intro b w1 hS) | refine as_i hS ?_ | refine as_i (hS.subs (List.nil_sublist _) sb9) ?_ | refine as_i (hS.subs (List.Sublist.refl _) sb9) ?_ | refine bar_f hS ?_ | refine ld_f hS 0 rfl rfl ?_ | refine ldA_f hS 0 rfl rfl ?_ | (refine stN_f hS 0 rfl (lb9 rfl) rfl rfl ?_; (conv => whnf); intro w1 hS) | (refine stM_f hS 0 rfl (lb9 rfl) rfl ?_; (conv => whnf); intro w1 hS) | refine ldN_f hS 0 rfl (lb9 rfl) ?_ | refine br_t (by assumption) ?_ | refine br_f (by assumption) ?_ | (refine drawf TB_ok rfl (by kernel_rfl) (by kernel_rfl) hS (List.Sublist.refl _) (List.Sublist.refl _) ?_; intro w1 hS) | refine br_t (by assumption) ?_ | refine br_f (by assumption) ?_)
    (conv => whnf)
    refine fc_m (w8_c _ _ L hW x.k ho.k.1 (by have := ho.k; omega) _ hS.ownF (by omega)) ?_
    rintro u w3 ⟨L0, hW0, hS'⟩
    replace hS := hS.callW hS'
    repeat ((conv => whnf); first | (apply q_i; focus (intro w1 hS; (conv => whnf); first | exact ⟨rfl, rfl⟩ | ((refine ld_f hS 0 rfl rfl ?_); (conv => whnf); exact ⟨rfl, rfl⟩) | ((refine ldA_f hS 0 rfl rfl ?_); (conv => whnf); exact ⟨rfl, rfl⟩) | ((refine ldN_f hS 0 rfl (lb9 rfl) ?_); (conv => whnf); exact ⟨rfl, rfl⟩) | ((refine br_t (by assumption) ?_); (conv => whnf); exact ⟨rfl, rfl⟩) | ((refine br_f (by assumption) ?_); (conv => whnf); exact ⟨rfl, rfl⟩))) | (refine nw_f hS ?_; intro b w1 hS) | refine as_i hS ?_ | refine as_i (hS.subs (List.nil_sublist _) sb9) ?_ | refine as_i (hS.subs (List.Sublist.refl _) sb9) ?_ | refine bar_f hS ?_ | refine ld_f hS 0 rfl rfl ?_ | refine ldA_f hS 0 rfl rfl ?_ | (refine stN_f hS 0 rfl (lb9 rfl) rfl rfl ?_; (conv => whnf); intro w1 hS) | (refine stM_f hS 0 rfl (lb9 rfl) rfl ?_; (conv => whnf); intro w1 hS) | refine ldN_f hS 0 rfl (lb9 rfl) ?_ | refine br_t (by assumption) ?_ | refine br_f (by assumption) ?_ | (refine drawf TB_ok rfl (by kernel_rfl) (by kernel_rfl) hS (List.Sublist.refl _) (List.Sublist.refl _) ?_; intro w1 hS) | refine br_t (by assumption) ?_ | refine br_f (by assumption) ?_)
    (conv => whnf)
    refine fc_m (putPath_c _ _ L0 hW0 x.p (by omega) _ hS.ownF (by simp only [List.length_append, be_len]; omega)) ?_
    rintro u w3 ⟨L1, hW1, hS'⟩
    replace hS := hS.callW hS'
    repeat ((conv => whnf); first | (apply q_i; focus (intro w1 hS; (conv => whnf); first | exact ⟨rfl, rfl⟩ | ((refine ld_f hS 0 rfl rfl ?_); (conv => whnf); exact ⟨rfl, rfl⟩) | ((refine ldA_f hS 0 rfl rfl ?_); (conv => whnf); exact ⟨rfl, rfl⟩) | ((refine ldN_f hS 0 rfl (lb9 rfl) ?_); (conv => whnf); exact ⟨rfl, rfl⟩) | ((refine br_t (by assumption) ?_); (conv => whnf); exact ⟨rfl, rfl⟩) | ((refine br_f (by assumption) ?_); (conv => whnf); exact ⟨rfl, rfl⟩))) | (refine nw_f hS ?_; intro b w1 hS) | refine as_i hS ?_ | refine as_i (hS.subs (List.nil_sublist _) sb9) ?_ | refine as_i (hS.subs (List.Sublist.refl _) sb9) ?_ | refine bar_f hS ?_ | refine ld_f hS 0 rfl rfl ?_ | refine ldA_f hS 0 rfl rfl ?_ | (refine stN_f hS 0 rfl (lb9 rfl) rfl rfl ?_; (conv => whnf); intro w1 hS) | (refine stM_f hS 0 rfl (lb9 rfl) rfl ?_; (conv => whnf); intro w1 hS) | refine ldN_f hS 0 rfl (lb9 rfl) ?_ | refine br_t (by assumption) ?_ | refine br_f (by assumption) ?_ | (refine drawf TB_ok rfl (by kernel_rfl) (by kernel_rfl) hS (List.Sublist.refl _) (List.Sublist.refl _) ?_; intro w1 hS) | refine br_t (by assumption) ?_ | refine br_f (by assumption) ?_)
    (conv => whnf)
    refine fc_m (putVer_c _ _ L1 hW1 x.vi x.vt x.vc ho.vi ho.vt ho.vc x.v ho.v hvk h.B h.e _ (fun w' h' => (hR w' (hS.callW h').nil).v) hS.ownF (by simp only [List.length_append, be_len]; omega)) ?_
    rintro u w3 ⟨L2, hW2, hS'⟩
    replace hS := hS.callW hS'
    repeat ((conv => whnf); first | (apply q_i; focus (intro w1 hS; (conv => whnf); first | exact ⟨rfl, rfl⟩ | ((refine ld_f hS 0 rfl rfl ?_); (conv => whnf); exact ⟨rfl, rfl⟩) | ((refine ldA_f hS 0 rfl rfl ?_); (conv => whnf); exact ⟨rfl, rfl⟩))) | (refine nw_f hS ?_; intro b w1 hS) | refine as_i hS ?_ | refine as_i (hS.subs (List.nil_sublist _) sb9) ?_ | refine as_i (hS.subs (List.Sublist.refl _) sb9) ?_ | refine bar_f hS ?_ | refine ld_f hS 0 rfl rfl ?_ | refine ldA_f hS 0 rfl rfl ?_ | (refine stN_f hS 0 rfl (lb9 rfl) rfl rfl ?_; (conv => whnf); intro w1 hS) | (refine stM_f hS 0 rfl (lb9 rfl) rfl ?_; (conv => whnf); intro w1 hS) | (refine drawf TB_ok rfl (by kernel_rfl) (by kernel_rfl) hS (List.Sublist.refl _) (List.Sublist.refl _) ?_; intro w1 hS) | refine br_t (by assumption) ?_ | refine br_f (by assumption) ?_)
    (conv => whnf)
    have h2 := hS.fr (List.Sublist.refl _)
    rw [List.append_nil] at h2
    refine ⟨L2, ?_, h2⟩
    simpa only [List.append_assoc] using hW2
  · rw [restT6 hk]
    rw [mayR6 hk] at hm
    have g1 : (x.k == 1) = false := by rw [hk]; rfl
    have g2 : (x.k == 2) = false := by rw [hk]; rfl
    have g3 : (x.k == 3) = false := by rw [hk]; rfl
    have g4 : (x.k == 4) = false := by rw [hk]; rfl
    have g5 : (x.k == 5) = false := by rw [hk]; rfl
    have g6 : (x.k == 6) = true := by rw [hk]; rfl
    have g7 : (x.k == 7) = false := by rw [hk]; rfl
    have g8 : (x.k == 8) = false := by rw [hk]; rfl
    refine fc_i TB_ok Tryz.func35 rfl (by kernel_rfl) ?_
    have hS : Sf (keys L) w w (L ++ []) [] := ⟨by simpa using hS⟩
    repeat ((conv => whnf); first | (apply q_i; focus (intro w1 hS; (conv => whnf); first | exact ⟨rfl, rfl⟩ | ((refine ld_f hS 0 rfl rfl ?_); (conv => whnf); exact ⟨rfl, rfl⟩) | ((refine ldA_f hS 0 rfl rfl ?_); (conv => whnf); exact ⟨rfl, rfl⟩) | ((refine ldN_f hS 0 rfl (lb9 rfl) ?_); (conv => whnf); exact ⟨rfl, rfl⟩) | ((refine br_t (by assumption) ?_); (conv => whnf); exact ⟨rfl, rfl⟩) | ((refine br_f (by assumption) ?_); (conv => whnf); exact ⟨rfl, rfl⟩))) | (refine nw_f hS ?_; intro b w1 hS) | refine as_i hS ?_ | refine as_i (hS.subs (List.nil_sublist _) sb9) ?_ | refine as_i (hS.subs (List.Sublist.refl _) sb9) ?_ | refine bar_f hS ?_ | refine ld_f hS 0 rfl rfl ?_ | refine ldA_f hS 0 rfl rfl ?_ | (refine stN_f hS 0 rfl (lb9 rfl) rfl rfl ?_; (conv => whnf); intro w1 hS) | (refine stM_f hS 0 rfl (lb9 rfl) rfl ?_; (conv => whnf); intro w1 hS) | refine ldN_f hS 0 rfl (lb9 rfl) ?_ | refine br_t (by assumption) ?_ | refine br_f (by assumption) ?_ | (refine drawf TB_ok rfl (by kernel_rfl) (by kernel_rfl) hS (List.Sublist.refl _) (List.Sublist.refl _) ?_; intro w1 hS) | refine br_t (by assumption) ?_ | refine br_f (by assumption) ?_)
    (conv => whnf)
    refine fc_m (w8_c _ _ L hW x.k ho.k.1 (by have := ho.k; omega) _ hS.ownF (by omega)) ?_
    rintro u w3 ⟨L0, hW0, hS'⟩
    replace hS := hS.callW hS'
    repeat ((conv => whnf); first | (apply q_i; focus (intro w1 hS; (conv => whnf); first | exact ⟨rfl, rfl⟩ | ((refine ld_f hS 0 rfl rfl ?_); (conv => whnf); exact ⟨rfl, rfl⟩) | ((refine ldA_f hS 0 rfl rfl ?_); (conv => whnf); exact ⟨rfl, rfl⟩) | ((refine ldN_f hS 0 rfl (lb9 rfl) ?_); (conv => whnf); exact ⟨rfl, rfl⟩) | ((refine br_t (by assumption) ?_); (conv => whnf); exact ⟨rfl, rfl⟩) | ((refine br_f (by assumption) ?_); (conv => whnf); exact ⟨rfl, rfl⟩))) | (refine nw_f hS ?_; intro b w1 hS) | refine as_i hS ?_ | refine as_i (hS.subs (List.nil_sublist _) sb9) ?_ | refine as_i (hS.subs (List.Sublist.refl _) sb9) ?_ | refine bar_f hS ?_ | refine ld_f hS 0 rfl rfl ?_ | refine ldA_f hS 0 rfl rfl ?_ | (refine stN_f hS 0 rfl (lb9 rfl) rfl rfl ?_; (conv => whnf); intro w1 hS) | (refine stM_f hS 0 rfl (lb9 rfl) rfl ?_; (conv => whnf); intro w1 hS) | refine ldN_f hS 0 rfl (lb9 rfl) ?_ | refine br_t (by assumption) ?_ | refine br_f (by assumption) ?_ | (refine drawf TB_ok rfl (by kernel_rfl) (by kernel_rfl) hS (List.Sublist.refl _) (List.Sublist.refl _) ?_; intro w1 hS) | refine br_t (by assumption) ?_ | refine br_f (by assumption) ?_)
    (conv => whnf)
    refine fc_m (w32_c _ _ L0 hW0 x.vi ho.vi.1 ho.vi.2 _ hS.ownF (by simp only [List.length_append, be_len]; omega)) ?_
    rintro u w3 ⟨L1, hW1, hS'⟩
    replace hS := hS.callW hS'
    repeat ((conv => whnf); first | (apply q_i; focus (intro w1 hS; (conv => whnf); first | exact ⟨rfl, rfl⟩ | ((refine ld_f hS 0 rfl rfl ?_); (conv => whnf); exact ⟨rfl, rfl⟩) | ((refine ldA_f hS 0 rfl rfl ?_); (conv => whnf); exact ⟨rfl, rfl⟩))) | (refine nw_f hS ?_; intro b w1 hS) | refine as_i hS ?_ | refine as_i (hS.subs (List.nil_sublist _) sb9) ?_ | refine as_i (hS.subs (List.Sublist.refl _) sb9) ?_ | refine bar_f hS ?_ | refine ld_f hS 0 rfl rfl ?_ | refine ldA_f hS 0 rfl rfl ?_ | (refine stN_f hS 0 rfl (lb9 rfl) rfl rfl ?_; (conv => whnf); intro w1 hS) | (refine stM_f hS 0 rfl (lb9 rfl) rfl ?_; (conv => whnf); intro w1 hS) | (refine drawf TB_ok rfl (by kernel_rfl) (by kernel_rfl) hS (List.Sublist.refl _) (List.Sublist.refl _) ?_; intro w1 hS) | refine br_t (by assumption) ?_ | refine br_f (by assumption) ?_)
    (conv => whnf)
    have h2 := hS.fr (List.Sublist.refl _)
    rw [List.append_nil] at h2
    refine ⟨L1, ?_, h2⟩
    simpa only [List.append_assoc] using hW1
  · rw [restT7 hk]
    rw [mayR7 hk] at hm
    have g1 : (x.k == 1) = false := by rw [hk]; rfl
    have g2 : (x.k == 2) = false := by rw [hk]; rfl
    have g3 : (x.k == 3) = false := by rw [hk]; rfl
    have g4 : (x.k == 4) = false := by rw [hk]; rfl
    have g5 : (x.k == 5) = false := by rw [hk]; rfl
    have g6 : (x.k == 6) = false := by rw [hk]; rfl
    have g7 : (x.k == 7) = true := by rw [hk]; rfl
    have g8 : (x.k == 8) = false := by rw [hk]; rfl
    obtain ⟨q1, q2, q3⟩ := chunkB_in hm
    refine fc_i TB_ok Tryz.func35 rfl (by kernel_rfl) ?_
    have hS : Sf (keys L) w w (L ++ []) [] := ⟨by simpa using hS⟩
    repeat ((conv => whnf); first | (apply q_i; focus (intro w1 hS; (conv => whnf); first | exact ⟨rfl, rfl⟩ | ((refine ld_f hS 0 rfl rfl ?_); (conv => whnf); exact ⟨rfl, rfl⟩) | ((refine ldA_f hS 0 rfl rfl ?_); (conv => whnf); exact ⟨rfl, rfl⟩) | ((refine ldN_f hS 0 rfl (lb9 rfl) ?_); (conv => whnf); exact ⟨rfl, rfl⟩) | ((refine br_t (by assumption) ?_); (conv => whnf); exact ⟨rfl, rfl⟩) | ((refine br_f (by assumption) ?_); (conv => whnf); exact ⟨rfl, rfl⟩))) | (refine nw_f hS ?_; intro b w1 hS) | refine as_i hS ?_ | refine as_i (hS.subs (List.nil_sublist _) sb9) ?_ | refine as_i (hS.subs (List.Sublist.refl _) sb9) ?_ | refine bar_f hS ?_ | refine ld_f hS 0 rfl rfl ?_ | refine ldA_f hS 0 rfl rfl ?_ | (refine stN_f hS 0 rfl (lb9 rfl) rfl rfl ?_; (conv => whnf); intro w1 hS) | (refine stM_f hS 0 rfl (lb9 rfl) rfl ?_; (conv => whnf); intro w1 hS) | refine ldN_f hS 0 rfl (lb9 rfl) ?_ | refine br_t (by assumption) ?_ | refine br_f (by assumption) ?_ | (refine drawf TB_ok rfl (by kernel_rfl) (by kernel_rfl) hS (List.Sublist.refl _) (List.Sublist.refl _) ?_; intro w1 hS) | refine br_t (by assumption) ?_ | refine br_f (by assumption) ?_)
    (conv => whnf)
    refine fc_m (w8_c _ _ L hW x.k ho.k.1 (by have := ho.k; omega) _ hS.ownF (by omega)) ?_
    rintro u w3 ⟨L0, hW0, hS'⟩
    replace hS := hS.callW hS'
    repeat ((conv => whnf); first | (apply q_i; focus (intro w1 hS; (conv => whnf); first | exact ⟨rfl, rfl⟩ | ((refine ld_f hS 0 rfl rfl ?_); (conv => whnf); exact ⟨rfl, rfl⟩) | ((refine ldA_f hS 0 rfl rfl ?_); (conv => whnf); exact ⟨rfl, rfl⟩) | ((refine ldN_f hS 0 rfl (lb9 rfl) ?_); (conv => whnf); exact ⟨rfl, rfl⟩) | ((refine br_t (by assumption) ?_); (conv => whnf); exact ⟨rfl, rfl⟩) | ((refine br_f (by assumption) ?_); (conv => whnf); exact ⟨rfl, rfl⟩))) | (refine nw_f hS ?_; intro b w1 hS) | refine as_i hS ?_ | refine as_i (hS.subs (List.nil_sublist _) sb9) ?_ | refine as_i (hS.subs (List.Sublist.refl _) sb9) ?_ | refine bar_f hS ?_ | refine ld_f hS 0 rfl rfl ?_ | refine ldA_f hS 0 rfl rfl ?_ | (refine stN_f hS 0 rfl (lb9 rfl) rfl rfl ?_; (conv => whnf); intro w1 hS) | (refine stM_f hS 0 rfl (lb9 rfl) rfl ?_; (conv => whnf); intro w1 hS) | refine ldN_f hS 0 rfl (lb9 rfl) ?_ | refine br_t (by assumption) ?_ | refine br_f (by assumption) ?_ | (refine drawf TB_ok rfl (by kernel_rfl) (by kernel_rfl) hS (List.Sublist.refl _) (List.Sublist.refl _) ?_; intro w1 hS) | refine br_t (by assumption) ?_ | refine br_f (by assumption) ?_)
    (conv => whnf)
    refine fc_m (w32_c _ _ L0 hW0 x.ci ho.ci.1 ho.ci.2 _ hS.ownF (by simp only [List.length_append, be_len]; omega)) ?_
    rintro u w3 ⟨L1, hW1, hS'⟩
    replace hS := hS.callW hS'
    repeat ((conv => whnf); first | (apply q_i; focus (intro w1 hS; (conv => whnf); first | exact ⟨rfl, rfl⟩ | ((refine ld_f hS 0 rfl rfl ?_); (conv => whnf); exact ⟨rfl, rfl⟩) | ((refine ldA_f hS 0 rfl rfl ?_); (conv => whnf); exact ⟨rfl, rfl⟩) | ((refine ldN_f hS 0 rfl (lb9 rfl) ?_); (conv => whnf); exact ⟨rfl, rfl⟩) | ((refine br_t (by assumption) ?_); (conv => whnf); exact ⟨rfl, rfl⟩) | ((refine br_f (by assumption) ?_); (conv => whnf); exact ⟨rfl, rfl⟩))) | (refine nw_f hS ?_; intro b w1 hS) | refine as_i hS ?_ | refine as_i (hS.subs (List.nil_sublist _) sb9) ?_ | refine as_i (hS.subs (List.Sublist.refl _) sb9) ?_ | refine bar_f hS ?_ | refine ld_f hS 0 rfl rfl ?_ | refine ldA_f hS 0 rfl rfl ?_ | (refine stN_f hS 0 rfl (lb9 rfl) rfl rfl ?_; (conv => whnf); intro w1 hS) | (refine stM_f hS 0 rfl (lb9 rfl) rfl ?_; (conv => whnf); intro w1 hS) | refine ldN_f hS 0 rfl (lb9 rfl) ?_ | refine br_t (by assumption) ?_ | refine br_f (by assumption) ?_ | (refine drawf TB_ok rfl (by kernel_rfl) (by kernel_rfl) hS (List.Sublist.refl _) (List.Sublist.refl _) ?_; intro w1 hS) | refine br_t (by assumption) ?_ | refine br_f (by assumption) ?_)
    (conv => whnf)
    refine fc_m (w16u_c _ _ L1 hW1 x.cb q1.1 (by omega) _ hS.ownF (by simp only [List.length_append, be_len]; omega)) ?_
    rintro u w3 ⟨L2, hW2, hS'⟩
    replace hS := hS.callW hS'
    repeat ((conv => whnf); first | (apply q_i; focus (intro w1 hS; (conv => whnf); first | exact ⟨rfl, rfl⟩ | ((refine ld_f hS 0 rfl rfl ?_); (conv => whnf); exact ⟨rfl, rfl⟩) | ((refine ldA_f hS 0 rfl rfl ?_); (conv => whnf); exact ⟨rfl, rfl⟩) | ((refine ldN_f hS 0 rfl (lb9 rfl) ?_); (conv => whnf); exact ⟨rfl, rfl⟩) | ((refine br_t (by assumption) ?_); (conv => whnf); exact ⟨rfl, rfl⟩) | ((refine br_f (by assumption) ?_); (conv => whnf); exact ⟨rfl, rfl⟩))) | (refine nw_f hS ?_; intro b w1 hS) | refine as_i hS ?_ | refine as_i (hS.subs (List.nil_sublist _) sb9) ?_ | refine as_i (hS.subs (List.Sublist.refl _) sb9) ?_ | refine bar_f hS ?_ | refine ld_f hS 0 rfl rfl ?_ | refine ldA_f hS 0 rfl rfl ?_ | (refine stN_f hS 0 rfl (lb9 rfl) rfl rfl ?_; (conv => whnf); intro w1 hS) | (refine stM_f hS 0 rfl (lb9 rfl) rfl ?_; (conv => whnf); intro w1 hS) | refine ldN_f hS 0 rfl (lb9 rfl) ?_ | refine br_t (by assumption) ?_ | refine br_f (by assumption) ?_ | (refine drawf TB_ok rfl (by kernel_rfl) (by kernel_rfl) hS (List.Sublist.refl _) (List.Sublist.refl _) ?_; intro w1 hS) | refine br_t (by assumption) ?_ | refine br_f (by assumption) ?_)
    (conv => whnf)
    refine fc_m (w16u_c _ _ L2 hW2 x.cr q2.1 (by omega) _ hS.ownF (by simp only [List.length_append, be_len]; omega)) ?_
    rintro u w3 ⟨L3, hW3, hS'⟩
    replace hS := hS.callW hS'
    repeat ((conv => whnf); first | (apply q_i; focus (intro w1 hS; (conv => whnf); first | exact ⟨rfl, rfl⟩ | ((refine ld_f hS 0 rfl rfl ?_); (conv => whnf); exact ⟨rfl, rfl⟩) | ((refine ldA_f hS 0 rfl rfl ?_); (conv => whnf); exact ⟨rfl, rfl⟩) | ((refine ldN_f hS 0 rfl (lb9 rfl) ?_); (conv => whnf); exact ⟨rfl, rfl⟩) | ((refine br_t (by assumption) ?_); (conv => whnf); exact ⟨rfl, rfl⟩) | ((refine br_f (by assumption) ?_); (conv => whnf); exact ⟨rfl, rfl⟩))) | (refine nw_f hS ?_; intro b w1 hS) | refine as_i hS ?_ | refine as_i (hS.subs (List.nil_sublist _) sb9) ?_ | refine as_i (hS.subs (List.Sublist.refl _) sb9) ?_ | refine bar_f hS ?_ | refine ld_f hS 0 rfl rfl ?_ | refine ldA_f hS 0 rfl rfl ?_ | (refine stN_f hS 0 rfl (lb9 rfl) rfl rfl ?_; (conv => whnf); intro w1 hS) | (refine stM_f hS 0 rfl (lb9 rfl) rfl ?_; (conv => whnf); intro w1 hS) | refine ldN_f hS 0 rfl (lb9 rfl) ?_ | refine br_t (by assumption) ?_ | refine br_f (by assumption) ?_ | (refine drawf TB_ok rfl (by kernel_rfl) (by kernel_rfl) hS (List.Sublist.refl _) (List.Sublist.refl _) ?_; intro w1 hS) | refine br_t (by assumption) ?_ | refine br_f (by assumption) ?_)
    (conv => whnf)
    refine fc_m (w8u_c _ _ L3 hW3 x.cs q3.1 (by omega) _ hS.ownF (by simp only [List.length_append, be_len]; omega)) ?_
    rintro u w3 ⟨L4, hW4, hS'⟩
    replace hS := hS.callW hS'
    repeat ((conv => whnf); first | (apply q_i; focus (intro w1 hS; (conv => whnf); first | exact ⟨rfl, rfl⟩ | ((refine ld_f hS 0 rfl rfl ?_); (conv => whnf); exact ⟨rfl, rfl⟩) | ((refine ldA_f hS 0 rfl rfl ?_); (conv => whnf); exact ⟨rfl, rfl⟩))) | (refine nw_f hS ?_; intro b w1 hS) | refine as_i hS ?_ | refine as_i (hS.subs (List.nil_sublist _) sb9) ?_ | refine as_i (hS.subs (List.Sublist.refl _) sb9) ?_ | refine bar_f hS ?_ | refine ld_f hS 0 rfl rfl ?_ | refine ldA_f hS 0 rfl rfl ?_ | (refine stN_f hS 0 rfl (lb9 rfl) rfl rfl ?_; (conv => whnf); intro w1 hS) | (refine stM_f hS 0 rfl (lb9 rfl) rfl ?_; (conv => whnf); intro w1 hS) | (refine drawf TB_ok rfl (by kernel_rfl) (by kernel_rfl) hS (List.Sublist.refl _) (List.Sublist.refl _) ?_; intro w1 hS) | refine br_t (by assumption) ?_ | refine br_f (by assumption) ?_)
    (conv => whnf)
    have h2 := hS.fr (List.Sublist.refl _)
    rw [List.append_nil] at h2
    refine ⟨L4, ?_, h2⟩
    simpa only [List.append_assoc] using hW4
  · rw [restT8 hk]
    rw [mayR8 hk] at hm
    have g1 : (x.k == 1) = false := by rw [hk]; rfl
    have g2 : (x.k == 2) = false := by rw [hk]; rfl
    have g3 : (x.k == 3) = false := by rw [hk]; rfl
    have g4 : (x.k == 4) = false := by rw [hk]; rfl
    have g5 : (x.k == 5) = false := by rw [hk]; rfl
    have g6 : (x.k == 6) = false := by rw [hk]; rfl
    have g7 : (x.k == 7) = false := by rw [hk]; rfl
    have g8 : (x.k == 8) = true := by rw [hk]; rfl
    rw [Bool.and_eq_true, Bool.and_eq_true] at hm
    have hp := namedB_len hm.2.1
    have hpt : (pathT x.p).length ≤ 37 := by unfold pathT; rw [List.length_append, be_len]; omega
    refine fc_i TB_ok Tryz.func35 rfl (by kernel_rfl) ?_
    have hS : Sf (keys L) w w (L ++ []) [] := ⟨by simpa using hS⟩
    repeat ((conv => whnf); first | (apply q_i; focus (intro w1 hS; (conv => whnf); first | exact ⟨rfl, rfl⟩ | ((refine ld_f hS 0 rfl rfl ?_); (conv => whnf); exact ⟨rfl, rfl⟩) | ((refine ldA_f hS 0 rfl rfl ?_); (conv => whnf); exact ⟨rfl, rfl⟩) | ((refine ldN_f hS 0 rfl (lb9 rfl) ?_); (conv => whnf); exact ⟨rfl, rfl⟩) | ((refine br_t (by assumption) ?_); (conv => whnf); exact ⟨rfl, rfl⟩) | ((refine br_f (by assumption) ?_); (conv => whnf); exact ⟨rfl, rfl⟩))) | (refine nw_f hS ?_; intro b w1 hS) | refine as_i hS ?_ | refine as_i (hS.subs (List.nil_sublist _) sb9) ?_ | refine as_i (hS.subs (List.Sublist.refl _) sb9) ?_ | refine bar_f hS ?_ | refine ld_f hS 0 rfl rfl ?_ | refine ldA_f hS 0 rfl rfl ?_ | (refine stN_f hS 0 rfl (lb9 rfl) rfl rfl ?_; (conv => whnf); intro w1 hS) | (refine stM_f hS 0 rfl (lb9 rfl) rfl ?_; (conv => whnf); intro w1 hS) | refine ldN_f hS 0 rfl (lb9 rfl) ?_ | refine br_t (by assumption) ?_ | refine br_f (by assumption) ?_ | (refine drawf TB_ok rfl (by kernel_rfl) (by kernel_rfl) hS (List.Sublist.refl _) (List.Sublist.refl _) ?_; intro w1 hS) | refine br_t (by assumption) ?_ | refine br_f (by assumption) ?_)
    (conv => whnf)
    refine fc_m (w8_c _ _ L hW x.k ho.k.1 (by have := ho.k; omega) _ hS.ownF (by omega)) ?_
    rintro u w3 ⟨L0, hW0, hS'⟩
    replace hS := hS.callW hS'
    repeat ((conv => whnf); first | (apply q_i; focus (intro w1 hS; (conv => whnf); first | exact ⟨rfl, rfl⟩ | ((refine ld_f hS 0 rfl rfl ?_); (conv => whnf); exact ⟨rfl, rfl⟩) | ((refine ldA_f hS 0 rfl rfl ?_); (conv => whnf); exact ⟨rfl, rfl⟩) | ((refine ldN_f hS 0 rfl (lb9 rfl) ?_); (conv => whnf); exact ⟨rfl, rfl⟩) | ((refine br_t (by assumption) ?_); (conv => whnf); exact ⟨rfl, rfl⟩) | ((refine br_f (by assumption) ?_); (conv => whnf); exact ⟨rfl, rfl⟩))) | (refine nw_f hS ?_; intro b w1 hS) | refine as_i hS ?_ | refine as_i (hS.subs (List.nil_sublist _) sb9) ?_ | refine as_i (hS.subs (List.Sublist.refl _) sb9) ?_ | refine bar_f hS ?_ | refine ld_f hS 0 rfl rfl ?_ | refine ldA_f hS 0 rfl rfl ?_ | (refine stN_f hS 0 rfl (lb9 rfl) rfl rfl ?_; (conv => whnf); intro w1 hS) | (refine stM_f hS 0 rfl (lb9 rfl) rfl ?_; (conv => whnf); intro w1 hS) | refine ldN_f hS 0 rfl (lb9 rfl) ?_ | refine br_t (by assumption) ?_ | refine br_f (by assumption) ?_ | (refine drawf TB_ok rfl (by kernel_rfl) (by kernel_rfl) hS (List.Sublist.refl _) (List.Sublist.refl _) ?_; intro w1 hS) | refine br_t (by assumption) ?_ | refine br_f (by assumption) ?_)
    (conv => whnf)
    refine fc_m (w8_c _ _ L0 hW0 x.r ho.r.1 (by have := ho.r; omega) _ hS.ownF (by simp only [List.length_append, be_len]; omega)) ?_
    rintro u w3 ⟨L1, hW1, hS'⟩
    replace hS := hS.callW hS'
    repeat ((conv => whnf); first | (apply q_i; focus (intro w1 hS; (conv => whnf); first | exact ⟨rfl, rfl⟩ | ((refine ld_f hS 0 rfl rfl ?_); (conv => whnf); exact ⟨rfl, rfl⟩) | ((refine ldA_f hS 0 rfl rfl ?_); (conv => whnf); exact ⟨rfl, rfl⟩) | ((refine ldN_f hS 0 rfl (lb9 rfl) ?_); (conv => whnf); exact ⟨rfl, rfl⟩) | ((refine br_t (by assumption) ?_); (conv => whnf); exact ⟨rfl, rfl⟩) | ((refine br_f (by assumption) ?_); (conv => whnf); exact ⟨rfl, rfl⟩))) | (refine nw_f hS ?_; intro b w1 hS) | refine as_i hS ?_ | refine as_i (hS.subs (List.nil_sublist _) sb9) ?_ | refine as_i (hS.subs (List.Sublist.refl _) sb9) ?_ | refine bar_f hS ?_ | refine ld_f hS 0 rfl rfl ?_ | refine ldA_f hS 0 rfl rfl ?_ | (refine stN_f hS 0 rfl (lb9 rfl) rfl rfl ?_; (conv => whnf); intro w1 hS) | (refine stM_f hS 0 rfl (lb9 rfl) rfl ?_; (conv => whnf); intro w1 hS) | refine ldN_f hS 0 rfl (lb9 rfl) ?_ | refine br_t (by assumption) ?_ | refine br_f (by assumption) ?_ | (refine drawf TB_ok rfl (by kernel_rfl) (by kernel_rfl) hS (List.Sublist.refl _) (List.Sublist.refl _) ?_; intro w1 hS) | refine br_t (by assumption) ?_ | refine br_f (by assumption) ?_)
    (conv => whnf)
    refine fc_m (putPath_c _ _ L1 hW1 x.p (by omega) _ hS.ownF (by simp only [List.length_append, be_len]; omega)) ?_
    rintro u w3 ⟨L2, hW2, hS'⟩
    replace hS := hS.callW hS'
    repeat ((conv => whnf); first | (apply q_i; focus (intro w1 hS; (conv => whnf); first | exact ⟨rfl, rfl⟩ | ((refine ld_f hS 0 rfl rfl ?_); (conv => whnf); exact ⟨rfl, rfl⟩) | ((refine ldA_f hS 0 rfl rfl ?_); (conv => whnf); exact ⟨rfl, rfl⟩) | ((refine ldN_f hS 0 rfl (lb9 rfl) ?_); (conv => whnf); exact ⟨rfl, rfl⟩) | ((refine br_t (by assumption) ?_); (conv => whnf); exact ⟨rfl, rfl⟩) | ((refine br_f (by assumption) ?_); (conv => whnf); exact ⟨rfl, rfl⟩))) | (refine nw_f hS ?_; intro b w1 hS) | refine as_i hS ?_ | refine as_i (hS.subs (List.nil_sublist _) sb9) ?_ | refine as_i (hS.subs (List.Sublist.refl _) sb9) ?_ | refine bar_f hS ?_ | refine ld_f hS 0 rfl rfl ?_ | refine ldA_f hS 0 rfl rfl ?_ | (refine stN_f hS 0 rfl (lb9 rfl) rfl rfl ?_; (conv => whnf); intro w1 hS) | (refine stM_f hS 0 rfl (lb9 rfl) rfl ?_; (conv => whnf); intro w1 hS) | refine ldN_f hS 0 rfl (lb9 rfl) ?_ | refine br_t (by assumption) ?_ | refine br_f (by assumption) ?_ | (refine drawf TB_ok rfl (by kernel_rfl) (by kernel_rfl) hS (List.Sublist.refl _) (List.Sublist.refl _) ?_; intro w1 hS) | refine br_t (by assumption) ?_ | refine br_f (by assumption) ?_)
    (conv => whnf)
    refine fc_m (putVec_c _ _ L2 hW2 x.g (fun j hj => ⟨(ho.g j hj).1, mayVB_le hm.2.2 j hj⟩) _ hS.ownF (by simp only [List.length_append, be_len]; omega)) ?_
    rintro u w3 ⟨L3, hW3, hS'⟩
    replace hS := hS.callW hS'
    repeat ((conv => whnf); first | (apply q_i; focus (intro w1 hS; (conv => whnf); first | exact ⟨rfl, rfl⟩ | ((refine ld_f hS 0 rfl rfl ?_); (conv => whnf); exact ⟨rfl, rfl⟩) | ((refine ldA_f hS 0 rfl rfl ?_); (conv => whnf); exact ⟨rfl, rfl⟩))) | (refine nw_f hS ?_; intro b w1 hS) | refine as_i hS ?_ | refine as_i (hS.subs (List.nil_sublist _) sb9) ?_ | refine as_i (hS.subs (List.Sublist.refl _) sb9) ?_ | refine bar_f hS ?_ | refine ld_f hS 0 rfl rfl ?_ | refine ldA_f hS 0 rfl rfl ?_ | (refine stN_f hS 0 rfl (lb9 rfl) rfl rfl ?_; (conv => whnf); intro w1 hS) | (refine stM_f hS 0 rfl (lb9 rfl) rfl ?_; (conv => whnf); intro w1 hS) | (refine drawf TB_ok rfl (by kernel_rfl) (by kernel_rfl) hS (List.Sublist.refl _) (List.Sublist.refl _) ?_; intro w1 hS) | refine br_t (by assumption) ?_ | refine br_f (by assumption) ?_)
    (conv => whnf)
    have h2 := hS.fr (List.Sublist.refl _)
    rw [List.append_nil] at h2
    refine ⟨L3, ?_, h2⟩
    simpa only [List.append_assoc] using hW3
end Go.RV


set_option maxRecDepth 20000
set_option linter.unusedVariables false
set_option linter.unusedSimpArgs false
namespace Go.RV
open Go Go.Proofs Go.RowKit

structure Rm where
  x : Rx
  h : Hd
  ms : List Sm
def encRm (m : Rm) : List Value := recL m.x m.h
theorem encRm_len (m : Rm) : (encRm m).length = 36 := rfl
theorem encRm_one (m : Rm) : ∀ y ∈ encRm m, one y = true := recL_one m.x m.h
structure RdR (w : World) (A : Option Addr) (rs : List Rm) : Prop where
  rd : Rd w A (flat encRm rs)
  el : ∀ r ∈ rs, MemR w r.x r.h r.ms
theorem RdR.below {w w' : World} {A : Option Addr} {rs : List Rm} (h : RdR w A rs) (hS : St [] w w' []) : RdR w' A rs := ⟨h.rd.below hS, fun m hm => (h.el m hm).below hS⟩
theorem flatT_len : ∀ (xs : List Rx), (∀ x ∈ xs, checkR x = true) → (xs.flatMap recT).length ≤ 300 * xs.length
  | [], _ => Nat.le_refl _
  | x :: xs, h => by
    have ih := flatT_len xs (fun y hy => h y (by simp [hy]))
    have h1 := recT_len (h x (by simp))
    show (recT x ++ xs.flatMap recT).length ≤ _
    rw [List.length_append, List.length_cons]
    omega
theorem putR_no {xs : List Rx} {i : Nat} (hi : i < xs.length) (h : checkR xs[i] = false) : putR xs = ([], 4) := by
  unfold putR
  rw [if_neg]
  intro ha
  rw [List.all_eq_true] at ha
  rw [ha _ (List.getElem_mem hi)] at h
  cases h
theorem putR_yes {xs : List Rx} (h : ∀ x ∈ xs, checkR x = true) : putR xs = (xs.flatMap recT, 0) := by
  unfold putR
  rw [if_pos (List.all_eq_true.2 h)]
theorem putR_c (A : Option Addr) (c : Nat) (rs : List Rm) (ho : ∀ r ∈ rs, okR r.x ∧ szR r.x) (hl : rs.length ≤ 1000000) (w : World) (hR : RdR w A rs) :
    Fc Tryz.prog 13 [.slice A rs.length c] w fun v w' => v = .tuple #[.string (strY (putR (rs.map Rm.x)).1), .int .i64 (putR (rs.map Rm.x)).2] ∧ St [] w w' [] := by
  refine fc_i TB_ok Tryz.func13 rfl (by kernel_rfl) ?_
  have hS := Sf.refl w
  repeat ((conv => whnf); first | (apply q_i; focus (intro w1 hS; (conv => whnf); first | exact ⟨rfl, rfl⟩ | ((refine ld_f hS 0 rfl rfl ?_); (conv => whnf); exact ⟨rfl, rfl⟩) | ((refine ldA_f hS 0 rfl rfl ?_); (conv => whnf); exact ⟨rfl, rfl⟩))) | (refine nw_f hS ?_; intro b w1 hS) | refine as_i hS ?_ | refine as_i (hS.subs (List.nil_sublist _) sb9) ?_ | refine as_i (hS.subs (List.Sublist.refl _) sb9) ?_ | refine bar_f hS ?_ | refine ld_f hS 0 rfl rfl ?_ | refine ldA_f hS 0 rfl rfl ?_ | (refine stN_f hS 0 rfl (lb9 rfl) rfl rfl ?_; (conv => whnf); intro w1 hS) | (refine stM_f hS 0 rfl (lb9 rfl) rfl ?_; (conv => whnf); intro w1 hS) | (refine drawf TB_ok rfl (by kernel_rfl) (by kernel_rfl) hS (List.Sublist.refl _) (List.Sublist.refl _) ?_; intro w1 hS) | refine br_t (by assumption) ?_ | refine br_f (by assumption) ?_)
  replace hS := hS.put
  rename Nat => bw
  refine loop_i TB_ok (fun i : Nat => [(12, .int .i64 i)]) (fun i w' => i ≤ rs.length ∧ (∀ x ∈ (rs.map Rm.x).take i, checkR x = true) ∧ ∃ L', Wr bw (((rs.map Rm.x).take i).flatMap recT) L' ∧ Sf [] w w' (L' ++ []) []) (fun i => rs.length - i) 0 rfl ⟨Nat.zero_le _, by simp, _, Wr.new _, hS⟩ ?_
  rintro i us w2 ⟨hi, hall, L1, hW1, hS⟩
  (conv => whnf)
  refine br_i (fun hb => ?_) (fun hb => ?_)
  · have hlt : i < rs.length := by have := of_decide_eq_true hb; omega
    obtain ⟨x0, off, rfl⟩ := hR.rd.form (flat_ne encRm_len (by omega) hlt)
    have hmem := List.getElem_mem hlt
    have hoi := ho _ hmem
    have hfl := flatT_len _ hall
    rw [List.length_take, List.length_map] at hfl
    have hck := fun w' => check18_c rs[i].x hoi.1 hoi.2 rs[i].h rs[i].ms w'
    cases hc : checkR rs[i].x with
    | false =>
      rw [hc] at hck
      repeat ((conv => whnf); first | (apply q_i; focus (intro w1 hS; (conv => whnf); first | exact ⟨rfl, rfl⟩ | ((refine ld_f hS 0 rfl rfl ?_); (conv => whnf); exact ⟨rfl, rfl⟩) | ((refine ldA_f hS 0 rfl rfl ?_); (conv => whnf); exact ⟨rfl, rfl⟩) | ((refine .mk ⟨by omega, by omega⟩ ?_; refine ix_i rfl ?_); (conv => whnf); exact ⟨rfl, rfl⟩) | ((refine ldN_el encRm_len (hR.rd.below hS.nil).at (i := i) hlt rfl rfl ?_); (conv => whnf); exact ⟨rfl, rfl⟩) | ((refine fc_m (hck _ ((hR.el _ hmem).below hS.nil)) ?_; rintro v w3 ⟨rfl, hS'⟩; replace hS := hS.call0 hS'); (conv => whnf); exact ⟨rfl, rfl⟩))) | (refine nw_f hS ?_; intro b w1 hS) | refine as_i hS ?_ | refine as_i (hS.subs (List.nil_sublist _) sb9) ?_ | refine as_i (hS.subs (List.Sublist.refl _) sb9) ?_ | refine bar_f hS ?_ | refine ld_f hS 0 rfl rfl ?_ | refine ldA_f hS 0 rfl rfl ?_ | (refine stN_f hS 0 rfl (lb9 rfl) rfl rfl ?_; (conv => whnf); intro w1 hS) | (refine stM_f hS 0 rfl (lb9 rfl) rfl ?_; (conv => whnf); intro w1 hS) | (refine .mk ⟨by omega, by omega⟩ ?_; refine ix_i rfl ?_) | refine ldN_el encRm_len (hR.rd.below hS.nil).at (i := i) hlt rfl rfl ?_ | (refine fc_m (hck _ ((hR.el _ hmem).below hS.nil)) ?_; rintro v w3 ⟨rfl, hS'⟩; replace hS := hS.call0 hS') | (refine drawf TB_ok rfl (by kernel_rfl) (by kernel_rfl) hS (List.Sublist.refl _) (List.Sublist.refl _) ?_; intro w1 hS) | refine br_t (by assumption) ?_ | refine br_f (by assumption) ?_)
      refine ⟨?_, hS.nil⟩
      rw [putR_no (i := i) (by simpa using hlt) (by simpa using hc)]
      rfl
    | true =>
      rw [hc] at hck
      repeat ((conv => whnf); first | (apply q_i; focus (intro w1 hS; (conv => whnf); first | exact ⟨rfl, rfl⟩ | ((refine ld_f hS 0 rfl rfl ?_); (conv => whnf); exact ⟨rfl, rfl⟩) | ((refine ldA_f hS 0 rfl rfl ?_); (conv => whnf); exact ⟨rfl, rfl⟩) | ((refine .mk ⟨by omega, by omega⟩ ?_; refine ix_i rfl ?_); (conv => whnf); exact ⟨rfl, rfl⟩) | ((refine ldN_el encRm_len (hR.rd.below hS.nil).at (i := i) hlt rfl rfl ?_); (conv => whnf); exact ⟨rfl, rfl⟩) | ((refine fc_m (hck _ ((hR.el _ hmem).below hS.nil)) ?_; rintro v w3 ⟨rfl, hS'⟩; replace hS := hS.call0 hS'); (conv => whnf); exact ⟨rfl, rfl⟩))) | (refine nw_f hS ?_; intro b w1 hS) | refine as_i hS ?_ | refine as_i (hS.subs (List.nil_sublist _) sb9) ?_ | refine as_i (hS.subs (List.Sublist.refl _) sb9) ?_ | refine bar_f hS ?_ | refine ld_f hS 0 rfl rfl ?_ | refine ldA_f hS 0 rfl rfl ?_ | (refine stN_f hS 0 rfl (lb9 rfl) rfl rfl ?_; (conv => whnf); intro w1 hS) | (refine stM_f hS 0 rfl (lb9 rfl) rfl ?_; (conv => whnf); intro w1 hS) | (refine .mk ⟨by omega, by omega⟩ ?_; refine ix_i rfl ?_) | refine ldN_el encRm_len (hR.rd.below hS.nil).at (i := i) hlt rfl rfl ?_ | (refine fc_m (hck _ ((hR.el _ hmem).below hS.nil)) ?_; rintro v w3 ⟨rfl, hS'⟩; replace hS := hS.call0 hS') | (refine drawf TB_ok rfl (by kernel_rfl) (by kernel_rfl) hS (List.Sublist.refl _) (List.Sublist.refl _) ?_; intro w1 hS) | refine br_t (by assumption) ?_ | refine br_f (by assumption) ?_)
      (conv => whnf)
      refine fc_m (put18_c bw _ L1 hW1 rs[i].x hoi.1 hc rs[i].h rs[i].ms _ (fun w' h' => (hR.el _ hmem).below (hS.callW h').nil) hS.ownF (by omega)) ?_
      rintro u w5 ⟨L2, hW2, hS'⟩
      replace hS := hS.callW hS'
      repeat ((conv => whnf); first | (apply q_i; focus (intro w1 hS; (conv => whnf); first | exact ⟨rfl, rfl⟩ | ((refine ld_f hS 0 rfl rfl ?_); (conv => whnf); exact ⟨rfl, rfl⟩) | ((refine ldA_f hS 0 rfl rfl ?_); (conv => whnf); exact ⟨rfl, rfl⟩))) | (refine nw_f hS ?_; intro b w1 hS) | refine as_i hS ?_ | refine as_i (hS.subs (List.nil_sublist _) sb9) ?_ | refine as_i (hS.subs (List.Sublist.refl _) sb9) ?_ | refine bar_f hS ?_ | refine ld_f hS 0 rfl rfl ?_ | refine ldA_f hS 0 rfl rfl ?_ | (refine stN_f hS 0 rfl (lb9 rfl) rfl rfl ?_; (conv => whnf); intro w1 hS) | (refine stM_f hS 0 rfl (lb9 rfl) rfl ?_; (conv => whnf); intro w1 hS) | (refine drawf TB_ok rfl (by kernel_rfl) (by kernel_rfl) hS (List.Sublist.refl _) (List.Sublist.refl _) ?_; intro w1 hS) | refine br_t (by assumption) ?_ | refine br_f (by assumption) ?_)
      refine ⟨rfl, i + 1, ?_, ⟨by omega, ?_, L2, ?_, hS.subs (List.Sublist.refl _) (List.nil_sublist _)⟩, by omega⟩
      · rw [wi hlt (by omega)]
        rfl
      · rw [List.take_succ_eq_append_getElem (by simpa using hlt), List.getElem_map]
        intro x hx
        rcases List.mem_append.1 hx with h | h
        · exact hall x h
        · obtain rfl := List.mem_singleton.1 h
          exact hc
      · rw [List.take_succ_eq_append_getElem (by simpa using hlt), List.flatMap_append, List.getElem_map]
        simpa using hW2
  · have hge : i = rs.length := by have := of_decide_eq_false hb; omega
    subst hge
    rw [List.take_of_length_le (by simp)] at hW1 hall
    repeat ((conv => whnf); first | (apply q_i; focus (intro w1 hS; (conv => whnf); first | exact ⟨rfl, rfl⟩ | ((refine ld_f hS 0 rfl rfl ?_); (conv => whnf); exact ⟨rfl, rfl⟩) | ((refine ldA_f hS 0 rfl rfl ?_); (conv => whnf); exact ⟨rfl, rfl⟩))) | (refine nw_f hS ?_; intro b w1 hS) | refine as_i hS ?_ | refine as_i (hS.subs (List.nil_sublist _) sb9) ?_ | refine as_i (hS.subs (List.Sublist.refl _) sb9) ?_ | refine bar_f hS ?_ | refine ld_f hS 0 rfl rfl ?_ | refine ldA_f hS 0 rfl rfl ?_ | (refine stN_f hS 0 rfl (lb9 rfl) rfl rfl ?_; (conv => whnf); intro w1 hS) | (refine stM_f hS 0 rfl (lb9 rfl) rfl ?_; (conv => whnf); intro w1 hS) | (refine drawf TB_ok rfl (by kernel_rfl) (by kernel_rfl) hS (List.Sublist.refl _) (List.Sublist.refl _) ?_; intro w1 hS) | refine br_t (by assumption) ?_ | refine br_f (by assumption) ?_)
    (conv => whnf)
    refine fc_m (bytes_c _ _ L1 hW1 _ hS.ownF) ?_
    rintro v w10 ⟨rfl, hS'⟩
    replace hS := hS.call0 hS'
    repeat ((conv => whnf); first | (apply q_i; focus (intro w1 hS; (conv => whnf); first | exact ⟨rfl, rfl⟩ | ((refine ld_f hS 0 rfl rfl ?_); (conv => whnf); exact ⟨rfl, rfl⟩) | ((refine ldA_f hS 0 rfl rfl ?_); (conv => whnf); exact ⟨rfl, rfl⟩))) | (refine nw_f hS ?_; intro b w1 hS) | refine as_i hS ?_ | refine as_i (hS.subs (List.nil_sublist _) sb9) ?_ | refine as_i (hS.subs (List.Sublist.refl _) sb9) ?_ | refine bar_f hS ?_ | refine ld_f hS 0 rfl rfl ?_ | refine ldA_f hS 0 rfl rfl ?_ | (refine stN_f hS 0 rfl (lb9 rfl) rfl rfl ?_; (conv => whnf); intro w1 hS) | (refine stM_f hS 0 rfl (lb9 rfl) rfl ?_; (conv => whnf); intro w1 hS) | (refine drawf TB_ok rfl (by kernel_rfl) (by kernel_rfl) hS (List.Sublist.refl _) (List.Sublist.refl _) ?_; intro w1 hS) | refine br_t (by assumption) ?_ | refine br_f (by assumption) ?_)
    exact ⟨by rw [putR_yes hall], hS.nil⟩
theorem sizeR_c (A : Option Addr) (c : Nat) (rs : List Rm) (ho : ∀ r ∈ rs, okR r.x ∧ szR r.x) (hl : rs.length ≤ 1000000) (w : World) (hR : RdR w A rs) :
    Fc Tryz.prog 19 [.slice A rs.length c] w fun v w' => v = .int .i64 (putR (rs.map Rm.x)).1.length ∧ St [] w w' [] := by
  have hp := fun w' => putR_c A c rs ho hl w'
  generalize putR (rs.map Rm.x) = z at *
  have hz := strY_size z.1
  refine fc_i TB_ok Tryz.func19 rfl (by kernel_rfl) ?_
  have hS := Sf.refl w
  repeat ((conv => whnf); first | (apply q_i; focus (intro w1 hS; (conv => whnf); first | exact ⟨rfl, rfl⟩ | ((refine fc_m (hp _ (hR.below hS.nil)) ?_; rintro v w3 ⟨rfl, hS'⟩; replace hS := hS.call0 hS'); (conv => whnf); exact ⟨rfl, rfl⟩))) | (refine nw_f hS ?_; intro b w1 hS) | refine as_i hS ?_ | refine as_i (hS.subs (List.nil_sublist _) sb9) ?_ | refine as_i (hS.subs (List.Sublist.refl _) sb9) ?_ | refine bar_f hS ?_ | (refine fc_m (hp _ (hR.below hS.nil)) ?_; rintro v w3 ⟨rfl, hS'⟩; replace hS := hS.call0 hS') | (refine drawf TB_ok rfl (by kernel_rfl) (by kernel_rfl) hS (List.Sublist.refl _) (List.Sublist.refl _) ?_; intro w1 hS) | refine br_t (by assumption) ?_ | refine br_f (by assumption) ?_)
  exact ⟨by rw [← hz], hS.nil⟩
end Go.RV

