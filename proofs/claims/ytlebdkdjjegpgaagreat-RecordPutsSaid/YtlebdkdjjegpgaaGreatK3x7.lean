/- Texts of mine, packed for a claim (bundle.py). Conditions: none. -/
import Derived.Test.YtlebdkdjjegpgaaGreatK3x6
import Derived.Deep.Strs
import Derived.Deep.Fields
set_option maxRecDepth 20000
set_option linter.unusedVariables false
set_option linter.unusedSimpArgs false
namespace Go.RV
open Go Go.Proofs Go.RowKit

set_option maxHeartbeats 8000000 in
theorem rSame18_c (x y : Rx) (h k : Hd) (ms ns : List Sm) (w : World) (hx : MemR w x h ms) (hy : MemR w y k ns) (hl : x.xs.length ≤ 1000000) (he : ∀ s ∈ x.xs, s.v.ks.length ≤ 1000000) (hv : x.v.ks.length ≤ 1000000) :
    Fc Tryz.prog 20 [recV x h, recV y k] w fun v w' => v = .bool (sameR x y) ∧ St [] w w' [] := by
  have heq : ∀ w', RdM w' h.A ms → RdM w' k.A ns → Fc Tryz.prog 46 [regV x.f h.A x.xs.length h.c, regV y.f k.A y.xs.length k.c] w' fun v w'' => v = .bool (veq x.f y.f && sameSs x.xs y.xs) ∧ St [] w' w'' [] := fun w' p q => by
    have := rsm_c x.f y.f h.A k.A h.c k.c ms ns w' p q (by rw [← hx.len]; exact hl) (fun m hm => he m.s (by rw [hx.eq]; exact List.mem_map_of_mem hm))
    rwa [← hx.eq, ← hy.eq, ← hx.len, ← hy.len] at this
  have hsm : sameR x y = (!(x.k != y.k) && (!(x.r != y.r) && (!(!eq3 x.n0 x.n1 x.n2 y.n0 y.n1 y.n2) && (!(!eq3 x.rk x.ra x.rq y.rk y.ra y.rq) && (!(!streq (strY x.p) (strY y.p)) && (!(!veq x.g y.g) && (!(!eq4 x.ci x.cb x.cr x.cs y.ci y.cb y.cr y.cs) &&
      ((veq x.f y.f && sameSs x.xs y.xs) && ((x.vi == y.vi) && ((x.vt == y.vt) && ((x.vc == y.vc) && sameB x.v.d x.v.n x.v.ks y.v.d y.v.n y.v.ks))))))))))) := by
    unfold sameR sameV
    rw [streq_strY]
    simp only [bne, Bool.not_not]
    ac_rfl
  rw [hsm]
  clear hsm
  refine fc_i TB_ok Tryz.func20 rfl (by kernel_rfl) ?_
  have hS := Sf.refl w
  repeat' ((conv => whnf); first | refine And.intro ?_ ?_ | (apply q_i; focus (intro w1 hS; (conv => whnf); first | exact ⟨rfl, rfl⟩ | ((refine ld_f hS 0 rfl rfl ?_); (conv => whnf); exact ⟨rfl, rfl⟩) | ((refine ld_f hS 1 rfl rfl ?_); (conv => whnf); exact ⟨rfl, rfl⟩) | ((refine ldA_f hS 0 rfl rfl ?_); (conv => whnf); exact ⟨rfl, rfl⟩) | ((refine ldA_f hS 1 rfl rfl ?_); (conv => whnf); exact ⟨rfl, rfl⟩) | ((refine ldN_f hS 0 rfl (lb9 rfl) ?_); (conv => whnf); exact ⟨rfl, rfl⟩) | ((refine ldN_f hS 1 rfl (lb9 rfl) ?_); (conv => whnf); exact ⟨rfl, rfl⟩) | ((refine neArr3 x.n0 x.n1 x.n2 y.n0 y.n1 y.n2 ?_); (conv => whnf); exact ⟨rfl, rfl⟩) | ((refine nePol x.rk x.ra x.rq y.rk y.ra y.rq ?_); (conv => whnf); exact ⟨rfl, rfl⟩) | ((refine neVec x.g y.g ?_); (conv => whnf); exact ⟨rfl, rfl⟩) | ((refine neRCh x.ci x.cb x.cr x.cs y.ci y.cb y.cr y.cs ?_); (conv => whnf); exact ⟨rfl, rfl⟩) | ((refine fc_m (heq _ (hx.l.below hS.nil) (hy.l.below hS.nil)) ?_; rintro v w3 ⟨rfl, hS'⟩; replace hS := hS.call0 hS'); (conv => whnf); exact ⟨rfl, rfl⟩) | ((refine fc_m (rsame_c _ _ _ _ x.v.ks _ _ _ _ y.v.ks _ (hx.v.below hS.nil) (hy.v.below hS.nil) (by omega)) ?_; rintro v w3 ⟨rfl, hS'⟩; replace hS := hS.call0 hS'); (conv => whnf); exact ⟨rfl, rfl⟩) | ((refine br_i (fun _ => ?_) (fun _ => ?_)); (conv => whnf); exact ⟨rfl, rfl⟩))) | (refine nw_f hS ?_; intro b w1 hS) | refine as_i hS ?_ | refine as_i (hS.subs (List.nil_sublist _) sb9) ?_ | refine as_i (hS.subs (List.Sublist.refl _) sb9) ?_ | refine bar_f hS ?_ | refine ld_f hS 0 rfl rfl ?_ | refine ld_f hS 1 rfl rfl ?_ | refine ldA_f hS 0 rfl rfl ?_ | refine ldA_f hS 1 rfl rfl ?_ | (refine stN_f hS 0 rfl (lb9 rfl) rfl rfl ?_; (conv => whnf); intro w1 hS) | (refine stN_f hS 1 rfl (lb9 rfl) rfl rfl ?_; (conv => whnf); intro w1 hS) | (refine stM_f hS 0 rfl (lb9 rfl) rfl ?_; (conv => whnf); intro w1 hS) | (refine stM_f hS 1 rfl (lb9 rfl) rfl ?_; (conv => whnf); intro w1 hS) | refine ldN_f hS 0 rfl (lb9 rfl) ?_ | refine ldN_f hS 1 rfl (lb9 rfl) ?_ | refine neArr3 x.n0 x.n1 x.n2 y.n0 y.n1 y.n2 ?_ | refine nePol x.rk x.ra x.rq y.rk y.ra y.rq ?_ | refine neVec x.g y.g ?_ | refine neRCh x.ci x.cb x.cr x.cs y.ci y.cb y.cr y.cs ?_ | (refine fc_m (heq _ (hx.l.below hS.nil) (hy.l.below hS.nil)) ?_; rintro v w3 ⟨rfl, hS'⟩; replace hS := hS.call0 hS') | (refine fc_m (rsame_c _ _ _ _ x.v.ks _ _ _ _ y.v.ks _ (hx.v.below hS.nil) (hy.v.below hS.nil) (by omega)) ?_; rintro v w3 ⟨rfl, hS'⟩; replace hS := hS.call0 hS') | (refine br_i (fun _ => ?_) (fun _ => ?_)) | (refine drawf TB_ok rfl (by kernel_rfl) (by kernel_rfl) hS (List.Sublist.refl _) (List.Sublist.refl _) ?_; intro w1 hS) | refine br_t (by assumption) ?_ | refine br_f (by assumption) ?_)
  all_goals first
    | exact hS.nil
    | (refine congrArg Value.bool ?_; simp only [*, Bool.not_true, Bool.not_false, Bool.and_true, Bool.true_and, Bool.false_and, Bool.and_false])
theorem regM_iff (f : Nat → Int) (xs : List Sm) : regB f (xs.map Sm.s) = true ↔ mayVB f = true ∧ xs.length ≤ 8 ∧ ∀ j (h : j < xs.length), hasB f xs[j].s.r xs[j].s.n = true ∧ okV xs[j].s.v = true ∧ ∀ h0 : 0 < j, lessC (dotM (xs[j - 1]'(by omega))) (dotM xs[j]) = true := by
  unfold regB
  rw [Bool.and_eq_true, checkM_iff, List.all_eq_true]
  constructor
  · rintro ⟨⟨h1, h2, h3⟩, h4⟩
    exact ⟨h1, h2, fun j hj => ⟨(h3 j hj).1, h4 _ (List.mem_map_of_mem (List.getElem_mem hj)), (h3 j hj).2⟩⟩
  · rintro ⟨h1, h2, h3⟩
    refine ⟨⟨h1, h2, fun j hj => ⟨(h3 j hj).1, (h3 j hj).2.2⟩⟩, fun s hs => ?_⟩
    obtain ⟨m, hm, rfl⟩ := List.mem_map.1 hs
    obtain ⟨j, hj, rfl⟩ := List.getElem_of_mem hm
    exact (h3 j hj).2.1
theorem rlessM_c (a c : Sm) (w : World) : Fc Tryz.prog 79 [dotV a.s.r a.s.n, dotV c.s.r c.s.n] w fun v w' => v = .bool (lessC (dotM a) (dotM c)) ∧ St [] w w' [] := rless_c a.s.r a.s.n c.s.r c.s.n w
set_option maxHeartbeats 8000000 in
theorem mayReg_c (f : Nat → Int) (A : Option Addr) (c : Nat) (xs : List Sm) (w : World) (hR : RdM w A xs) (hl : xs.length ≤ 4611686018427387904) (hx : ∀ m ∈ xs, okSv m.s ∧ m.s.v.ks.length ≤ 4611686018427387904) :
    Fc Tryz.prog 43 [regV f A xs.length c] w fun v w' => v = .bool (regB f (xs.map Sm.s)) ∧ St [] w w' [] := by
  have hiff := regM_iff f xs
  have hrm := fun w => rmay_c f w
  refine fc_i TB_ok Tryz.func43 rfl (by kernel_rfl) ?_
  have hS := Sf.refl w
  have no : regB f (xs.map Sm.s) ≠ true → regB f (xs.map Sm.s) = false := fun h => by cases hc : regB f (xs.map Sm.s) <;> simp_all
  cases hm : mayVB f with
  | false =>
    rw [hm] at hrm
    rw [no (fun h => by have := (hiff.1 h).1; rw [hm] at this; cases this)]
    repeat ((conv => whnf); first | (apply q_i; focus (intro w1 hS; (conv => whnf); first | exact ⟨rfl, rfl⟩ | ((refine ld_f hS 0 rfl rfl ?_); (conv => whnf); exact ⟨rfl, rfl⟩) | ((refine ldA_f hS 0 rfl rfl ?_); (conv => whnf); exact ⟨rfl, rfl⟩) | ((refine fc_m (hrm _) ?_; rintro v w3 ⟨rfl, hS'⟩; replace hS := hS.call0 hS'); (conv => whnf); exact ⟨rfl, rfl⟩) | ((refine ldN_f hS 0 rfl (lb9 rfl) ?_); (conv => whnf); exact ⟨rfl, rfl⟩))) | (refine nw_f hS ?_; intro b w1 hS) | refine as_i hS ?_ | refine as_i (hS.subs (List.nil_sublist _) sb9) ?_ | refine as_i (hS.subs (List.Sublist.refl _) sb9) ?_ | refine bar_f hS ?_ | refine ld_f hS 0 rfl rfl ?_ | refine ldA_f hS 0 rfl rfl ?_ | (refine stN_f hS 0 rfl (lb9 rfl) rfl rfl ?_; (conv => whnf); intro w1 hS) | (refine stM_f hS 0 rfl (lb9 rfl) rfl ?_; (conv => whnf); intro w1 hS) | (refine fc_m (hrm _) ?_; rintro v w3 ⟨rfl, hS'⟩; replace hS := hS.call0 hS') | refine ldN_f hS 0 rfl (lb9 rfl) ?_ | (refine drawf TB_ok rfl (by kernel_rfl) (by kernel_rfl) hS (List.Sublist.refl _) (List.Sublist.refl _) ?_; intro w1 hS) | refine br_t (by assumption) ?_ | refine br_f (by assumption) ?_)
    exact ⟨rfl, hS.nil⟩
  | true =>
    rw [hm] at hrm
    by_cases h8 : 8 < xs.length
    · have g8 : decide ((8 : Int) < (xs.length : Int)) = true := decide_eq_true (by omega)
      rw [no (fun h => by have := (hiff.1 h).2.1; omega)]
      repeat ((conv => whnf); first | (apply q_i; focus (intro w1 hS; (conv => whnf); first | exact ⟨rfl, rfl⟩ | ((refine ld_f hS 0 rfl rfl ?_); (conv => whnf); exact ⟨rfl, rfl⟩) | ((refine ldA_f hS 0 rfl rfl ?_); (conv => whnf); exact ⟨rfl, rfl⟩) | ((refine fc_m (hrm _) ?_; rintro v w3 ⟨rfl, hS'⟩; replace hS := hS.call0 hS'); (conv => whnf); exact ⟨rfl, rfl⟩) | ((refine ldN_f hS 0 rfl (lb9 rfl) ?_); (conv => whnf); exact ⟨rfl, rfl⟩))) | (refine nw_f hS ?_; intro b w1 hS) | refine as_i hS ?_ | refine as_i (hS.subs (List.nil_sublist _) sb9) ?_ | refine as_i (hS.subs (List.Sublist.refl _) sb9) ?_ | refine bar_f hS ?_ | refine ld_f hS 0 rfl rfl ?_ | refine ldA_f hS 0 rfl rfl ?_ | (refine stN_f hS 0 rfl (lb9 rfl) rfl rfl ?_; (conv => whnf); intro w1 hS) | (refine stM_f hS 0 rfl (lb9 rfl) rfl ?_; (conv => whnf); intro w1 hS) | (refine fc_m (hrm _) ?_; rintro v w3 ⟨rfl, hS'⟩; replace hS := hS.call0 hS') | refine ldN_f hS 0 rfl (lb9 rfl) ?_ | (refine drawf TB_ok rfl (by kernel_rfl) (by kernel_rfl) hS (List.Sublist.refl _) (List.Sublist.refl _) ?_; intro w1 hS) | refine br_t (by assumption) ?_ | refine br_f (by assumption) ?_)
      exact ⟨rfl, hS.nil⟩
    have g8 : decide ((8 : Int) < (xs.length : Int)) = false := decide_eq_false (by omega)
    repeat ((conv => whnf); first | (apply q_i; focus (intro w1 hS; (conv => whnf); first | exact ⟨rfl, rfl⟩ | ((refine ld_f hS 0 rfl rfl ?_); (conv => whnf); exact ⟨rfl, rfl⟩) | ((refine ldA_f hS 0 rfl rfl ?_); (conv => whnf); exact ⟨rfl, rfl⟩) | ((refine fc_m (hrm _) ?_; rintro v w3 ⟨rfl, hS'⟩; replace hS := hS.call0 hS'); (conv => whnf); exact ⟨rfl, rfl⟩) | ((refine ldN_f hS 0 rfl (lb9 rfl) ?_); (conv => whnf); exact ⟨rfl, rfl⟩))) | (refine nw_f hS ?_; intro b w1 hS) | refine as_i hS ?_ | refine as_i (hS.subs (List.nil_sublist _) sb9) ?_ | refine as_i (hS.subs (List.Sublist.refl _) sb9) ?_ | refine bar_f hS ?_ | refine ld_f hS 0 rfl rfl ?_ | refine ldA_f hS 0 rfl rfl ?_ | (refine stN_f hS 0 rfl (lb9 rfl) rfl rfl ?_; (conv => whnf); intro w1 hS) | (refine stM_f hS 0 rfl (lb9 rfl) rfl ?_; (conv => whnf); intro w1 hS) | (refine fc_m (hrm _) ?_; rintro v w3 ⟨rfl, hS'⟩; replace hS := hS.call0 hS') | refine ldN_f hS 0 rfl (lb9 rfl) ?_ | (refine drawf TB_ok rfl (by kernel_rfl) (by kernel_rfl) hS (List.Sublist.refl _) (List.Sublist.refl _) ?_; intro w1 hS) | refine br_t (by assumption) ?_ | refine br_f (by assumption) ?_)
    refine loop_i TB_ok (fun i : Nat => [(3, .int .i64 i)]) (fun i w' => i ≤ xs.length ∧ (∀ j, j < i → ∀ h : j < xs.length, hasB f xs[j].s.r xs[j].s.n = true ∧ okV xs[j].s.v = true ∧ ∀ h0 : 0 < j, lessC (dotM (xs[j - 1]'(by omega))) (dotM xs[j]) = true) ∧ Sf [] w w' [] [_]) (fun i => xs.length - i) 0 rfl ⟨Nat.zero_le _, fun j h => by omega, hS⟩ ?_
    rintro i us w2 ⟨hi, hj, hS⟩
    by_cases hlt : i < xs.length
    · have h1 : decide ((i : Int) < (xs.length : Int)) = true := decide_eq_true (by omega)
      obtain ⟨x, off, hA⟩ := hR.rd.form (flat_ne encM_len (by omega) hlt)
      have hRA : ∀ {w' : World}, St [] w w' [] → Rd w' (some ⟨x, off, none⟩) (flat encM xs) := fun {w'} hs => by
        have := hR.rd.below hs
        rwa [hA] at this
      have hmx := List.getElem_mem hlt
      have hoi := hx _ hmx
      have hh := fun w => rhas_c f xs[i].s.r xs[i].s.n hoi.1.1.1 w
      have hcc := fun w' => rmay_v xs[i].s.v.d xs[i].s.v.n hoi.1.2.2.1.1 hoi.1.2.2.1.2 xs[i].A xs[i].c xs[i].s.v.ks w'
      have bad : ¬ (hasB f xs[i].s.r xs[i].s.n = true ∧ okV xs[i].s.v = true ∧ ∀ h0 : 0 < i, lessC (dotM (xs[i - 1]'(by omega))) (dotM xs[i]) = true) → regB f (xs.map Sm.s) = false := fun h => no fun hc => h ((hiff.1 hc).2.2 i hlt)
      cases hb : hasB f xs[i].s.r xs[i].s.n with
      | false =>
        rw [hb] at hh
        rw [bad (fun h => by have := h.1; rw [hb] at this; cases this)]
        repeat ((conv => whnf); first | (apply q_i; focus (intro w1 hS; (conv => whnf); first | exact ⟨rfl, rfl⟩ | ((refine ld_f hS 0 rfl rfl ?_); (conv => whnf); exact ⟨rfl, rfl⟩) | ((refine ldA_f hS 0 rfl rfl ?_); (conv => whnf); exact ⟨rfl, rfl⟩))) | (refine nw_f hS ?_; intro b w1 hS) | refine as_i hS ?_ | refine as_i (hS.subs (List.nil_sublist _) sb9) ?_ | refine as_i (hS.subs (List.Sublist.refl _) sb9) ?_ | refine bar_f hS ?_ | refine ld_f hS 0 rfl rfl ?_ | refine ldA_f hS 0 rfl rfl ?_ | (refine stN_f hS 0 rfl (lb9 rfl) rfl rfl ?_; (conv => whnf); intro w1 hS) | (refine stM_f hS 0 rfl (lb9 rfl) rfl ?_; (conv => whnf); intro w1 hS) | refine br_t (by assumption) ?_ | refine br_f (by assumption) ?_)
        refine drawf TB_ok rfl (by kernel_rfl) (by kernel_rfl) hS (List.Sublist.refl _) (List.Sublist.refl _) ?_; intro w1 hS
        repeat ((conv => whnf); first | (apply q_i; focus (intro w1 hS; (conv => whnf); first | exact ⟨rfl, rfl⟩ | ((refine ld_f hS 0 rfl rfl ?_); (conv => whnf); exact ⟨rfl, rfl⟩) | ((refine ldA_f hS 0 rfl rfl ?_); (conv => whnf); exact ⟨rfl, rfl⟩) | ((refine .mk ⟨by omega, by omega⟩ ?_; refine ix_i hA ?_); (conv => whnf); exact ⟨rfl, rfl⟩) | ((refine ldN_f hS 0 rfl (lb9 rfl) ?_); (conv => whnf); exact ⟨rfl, rfl⟩) | ((refine ldN_elp encM_len (hRA hS.nil).at (i := i) (j0 := 0) hlt rfl (lb9 rfl) [.int .u8 xs[i].s.r, .int .u32 xs[i].s.n] rfl ?_); (conv => whnf); exact ⟨rfl, rfl⟩) | ((refine ldN_elp encM_len (hRA hS.nil).at (i := i) (j0 := 2) hlt rfl (lb9 rfl) [.bool xs[i].s.v.d, .int .i64 xs[i].s.v.n, .slice xs[i].A xs[i].s.v.ks.length xs[i].c] rfl ?_); (conv => whnf); exact ⟨rfl, rfl⟩) | ((refine fc_m (hh _) ?_; rintro v w3 ⟨rfl, hS'⟩; replace hS := hS.call0 hS'); (conv => whnf); exact ⟨rfl, rfl⟩) | ((refine fc_m (hcc _ ((hR.el _ hmx).below hS.nil) hoi.2) ?_; rintro v w3 ⟨rfl, hS'⟩; replace hS := hS.call0 hS'); (conv => whnf); exact ⟨rfl, rfl⟩))) | (refine nw_f hS ?_; intro b w1 hS) | refine as_i hS ?_ | refine as_i (hS.subs (List.nil_sublist _) sb9) ?_ | refine as_i (hS.subs (List.Sublist.refl _) sb9) ?_ | refine bar_f hS ?_ | refine ld_f hS 0 rfl rfl ?_ | refine ldA_f hS 0 rfl rfl ?_ | (refine stN_f hS 0 rfl (lb9 rfl) rfl rfl ?_; (conv => whnf); intro w1 hS) | (refine stM_f hS 0 rfl (lb9 rfl) rfl ?_; (conv => whnf); intro w1 hS) | (refine .mk ⟨by omega, by omega⟩ ?_; refine ix_i hA ?_) | refine ldN_f hS 0 rfl (lb9 rfl) ?_ | refine ldN_elp encM_len (hRA hS.nil).at (i := i) (j0 := 0) hlt rfl (lb9 rfl) [.int .u8 xs[i].s.r, .int .u32 xs[i].s.n] rfl ?_ | refine ldN_elp encM_len (hRA hS.nil).at (i := i) (j0 := 2) hlt rfl (lb9 rfl) [.bool xs[i].s.v.d, .int .i64 xs[i].s.v.n, .slice xs[i].A xs[i].s.v.ks.length xs[i].c] rfl ?_ | (refine fc_m (hh _) ?_; rintro v w3 ⟨rfl, hS'⟩; replace hS := hS.call0 hS') | (refine fc_m (hcc _ ((hR.el _ hmx).below hS.nil) hoi.2) ?_; rintro v w3 ⟨rfl, hS'⟩; replace hS := hS.call0 hS') | (refine drawf TB_ok rfl (by kernel_rfl) (by kernel_rfl) hS (List.Sublist.refl _) (List.Sublist.refl _) ?_; intro w1 hS) | refine br_t (by assumption) ?_ | refine br_f (by assumption) ?_)
        exact ⟨rfl, hS.nil⟩
      | true =>
        rw [hb] at hh
        cases hk : okV xs[i].s.v with
        | false =>
          rw [show okVB xs[i].s.v.d xs[i].s.v.n xs[i].s.v.ks = false from hk] at hcc
          rw [bad (fun h => by have := h.2.1; rw [hk] at this; cases this)]
          repeat ((conv => whnf); first | (apply q_i; focus (intro w1 hS; (conv => whnf); first | exact ⟨rfl, rfl⟩ | ((refine ld_f hS 0 rfl rfl ?_); (conv => whnf); exact ⟨rfl, rfl⟩) | ((refine ldA_f hS 0 rfl rfl ?_); (conv => whnf); exact ⟨rfl, rfl⟩))) | (refine nw_f hS ?_; intro b w1 hS) | refine as_i hS ?_ | refine as_i (hS.subs (List.nil_sublist _) sb9) ?_ | refine as_i (hS.subs (List.Sublist.refl _) sb9) ?_ | refine bar_f hS ?_ | refine ld_f hS 0 rfl rfl ?_ | refine ldA_f hS 0 rfl rfl ?_ | (refine stN_f hS 0 rfl (lb9 rfl) rfl rfl ?_; (conv => whnf); intro w1 hS) | (refine stM_f hS 0 rfl (lb9 rfl) rfl ?_; (conv => whnf); intro w1 hS) | refine br_t (by assumption) ?_ | refine br_f (by assumption) ?_)
          refine drawf TB_ok rfl (by kernel_rfl) (by kernel_rfl) hS (List.Sublist.refl _) (List.Sublist.refl _) ?_; intro w1 hS
          repeat ((conv => whnf); first | (apply q_i; focus (intro w1 hS; (conv => whnf); first | exact ⟨rfl, rfl⟩ | ((refine ld_f hS 0 rfl rfl ?_); (conv => whnf); exact ⟨rfl, rfl⟩) | ((refine ldA_f hS 0 rfl rfl ?_); (conv => whnf); exact ⟨rfl, rfl⟩) | ((refine .mk ⟨by omega, by omega⟩ ?_; refine ix_i hA ?_); (conv => whnf); exact ⟨rfl, rfl⟩) | ((refine ldN_f hS 0 rfl (lb9 rfl) ?_); (conv => whnf); exact ⟨rfl, rfl⟩) | ((refine ldN_elp encM_len (hRA hS.nil).at (i := i) (j0 := 0) hlt rfl (lb9 rfl) [.int .u8 xs[i].s.r, .int .u32 xs[i].s.n] rfl ?_); (conv => whnf); exact ⟨rfl, rfl⟩) | ((refine ldN_elp encM_len (hRA hS.nil).at (i := i) (j0 := 2) hlt rfl (lb9 rfl) [.bool xs[i].s.v.d, .int .i64 xs[i].s.v.n, .slice xs[i].A xs[i].s.v.ks.length xs[i].c] rfl ?_); (conv => whnf); exact ⟨rfl, rfl⟩) | ((refine fc_m (hh _) ?_; rintro v w3 ⟨rfl, hS'⟩; replace hS := hS.call0 hS'); (conv => whnf); exact ⟨rfl, rfl⟩) | ((refine fc_m (hcc _ ((hR.el _ hmx).below hS.nil) hoi.2) ?_; rintro v w3 ⟨rfl, hS'⟩; replace hS := hS.call0 hS'); (conv => whnf); exact ⟨rfl, rfl⟩))) | (refine nw_f hS ?_; intro b w1 hS) | refine as_i hS ?_ | refine as_i (hS.subs (List.nil_sublist _) sb9) ?_ | refine as_i (hS.subs (List.Sublist.refl _) sb9) ?_ | refine bar_f hS ?_ | refine ld_f hS 0 rfl rfl ?_ | refine ldA_f hS 0 rfl rfl ?_ | (refine stN_f hS 0 rfl (lb9 rfl) rfl rfl ?_; (conv => whnf); intro w1 hS) | (refine stM_f hS 0 rfl (lb9 rfl) rfl ?_; (conv => whnf); intro w1 hS) | (refine .mk ⟨by omega, by omega⟩ ?_; refine ix_i hA ?_) | refine ldN_f hS 0 rfl (lb9 rfl) ?_ | refine ldN_elp encM_len (hRA hS.nil).at (i := i) (j0 := 0) hlt rfl (lb9 rfl) [.int .u8 xs[i].s.r, .int .u32 xs[i].s.n] rfl ?_ | refine ldN_elp encM_len (hRA hS.nil).at (i := i) (j0 := 2) hlt rfl (lb9 rfl) [.bool xs[i].s.v.d, .int .i64 xs[i].s.v.n, .slice xs[i].A xs[i].s.v.ks.length xs[i].c] rfl ?_ | (refine fc_m (hh _) ?_; rintro v w3 ⟨rfl, hS'⟩; replace hS := hS.call0 hS') | (refine fc_m (hcc _ ((hR.el _ hmx).below hS.nil) hoi.2) ?_; rintro v w3 ⟨rfl, hS'⟩; replace hS := hS.call0 hS') | (refine drawf TB_ok rfl (by kernel_rfl) (by kernel_rfl) hS (List.Sublist.refl _) (List.Sublist.refl _) ?_; intro w1 hS) | refine br_t (by assumption) ?_ | refine br_f (by assumption) ?_)
          exact ⟨rfl, hS.nil⟩
        | true =>
          rw [show okVB xs[i].s.v.d xs[i].s.v.n xs[i].s.v.ks = true from hk] at hcc
          by_cases h0 : 0 < i
          · have g0 : decide ((0 : Int) < (i : Int)) = true := decide_eq_true (by omega)
            have hw : IntKind.i64.wrap ((i : Int) - 1) = (i : Int) - 1 := wrap_i64 (by omega) (by omega)
            have hlt1 : i - 1 < xs.length := by omega
            have hol := fun w => rlessM_c xs[i - 1] xs[i] w
            cases hll : lessC (dotM xs[i - 1]) (dotM xs[i]) with
            | false =>
              rw [hll] at hol
              rw [bad (fun h => by have := h.2.2 h0; rw [hll] at this; cases this)]
              repeat ((conv => whnf); first | (apply q_i; focus (intro w1 hS; (conv => whnf); first | exact ⟨rfl, rfl⟩ | ((refine ld_f hS 0 rfl rfl ?_); (conv => whnf); exact ⟨rfl, rfl⟩) | ((refine ldA_f hS 0 rfl rfl ?_); (conv => whnf); exact ⟨rfl, rfl⟩))) | (refine nw_f hS ?_; intro b w1 hS) | refine as_i hS ?_ | refine as_i (hS.subs (List.nil_sublist _) sb9) ?_ | refine as_i (hS.subs (List.Sublist.refl _) sb9) ?_ | refine bar_f hS ?_ | refine ld_f hS 0 rfl rfl ?_ | refine ldA_f hS 0 rfl rfl ?_ | (refine stN_f hS 0 rfl (lb9 rfl) rfl rfl ?_; (conv => whnf); intro w1 hS) | (refine stM_f hS 0 rfl (lb9 rfl) rfl ?_; (conv => whnf); intro w1 hS) | refine br_t (by assumption) ?_ | refine br_f (by assumption) ?_)
              refine drawf TB_ok rfl (by kernel_rfl) (by kernel_rfl) hS (List.Sublist.refl _) (List.Sublist.refl _) ?_; intro w1 hS
              repeat ((conv => whnf); first | (apply q_i; focus (intro w1 hS; (conv => whnf); first | exact ⟨rfl, rfl⟩ | ((refine ld_f hS 0 rfl rfl ?_); (conv => whnf); exact ⟨rfl, rfl⟩) | ((refine ldA_f hS 0 rfl rfl ?_); (conv => whnf); exact ⟨rfl, rfl⟩) | ((refine .mk ⟨by omega, by omega⟩ ?_; refine ix_i hA ?_); (conv => whnf); exact ⟨rfl, rfl⟩) | ((refine ldN_f hS 0 rfl (lb9 rfl) ?_); (conv => whnf); exact ⟨rfl, rfl⟩) | ((refine ldN_elp encM_len (hRA hS.nil).at (i := i) (j0 := 0) hlt rfl (lb9 rfl) [.int .u8 xs[i].s.r, .int .u32 xs[i].s.n] rfl ?_); (conv => whnf); exact ⟨rfl, rfl⟩) | ((refine ldN_elp encM_len (hRA hS.nil).at (i := i) (j0 := 2) hlt rfl (lb9 rfl) [.bool xs[i].s.v.d, .int .i64 xs[i].s.v.n, .slice xs[i].A xs[i].s.v.ks.length xs[i].c] rfl ?_); (conv => whnf); exact ⟨rfl, rfl⟩) | ((refine fc_m (hh _) ?_; rintro v w3 ⟨rfl, hS'⟩; replace hS := hS.call0 hS'); (conv => whnf); exact ⟨rfl, rfl⟩) | ((refine fc_m (hcc _ ((hR.el _ hmx).below hS.nil) hoi.2) ?_; rintro v w3 ⟨rfl, hS'⟩; replace hS := hS.call0 hS'); (conv => whnf); exact ⟨rfl, rfl⟩) | ((refine ldN_elp encM_len (hRA hS.nil).at (i := i - 1) (j0 := 0) hlt1 (by show off + (IntKind.i64.wrap ((i : Int) - 1)).toNat * 5 = off + (i - 1) * 5 + 0; omega) (lb9 rfl) [.int .u8 xs[i - 1].s.r, .int .u32 xs[i - 1].s.n] rfl ?_); (conv => whnf); exact ⟨rfl, rfl⟩) | ((refine fc_m (hol _) ?_; rintro v w3 ⟨rfl, hS'⟩; replace hS := hS.call0 hS'); (conv => whnf); exact ⟨rfl, rfl⟩))) | (refine nw_f hS ?_; intro b w1 hS) | refine as_i hS ?_ | refine as_i (hS.subs (List.nil_sublist _) sb9) ?_ | refine as_i (hS.subs (List.Sublist.refl _) sb9) ?_ | refine bar_f hS ?_ | refine ld_f hS 0 rfl rfl ?_ | refine ldA_f hS 0 rfl rfl ?_ | (refine stN_f hS 0 rfl (lb9 rfl) rfl rfl ?_; (conv => whnf); intro w1 hS) | (refine stM_f hS 0 rfl (lb9 rfl) rfl ?_; (conv => whnf); intro w1 hS) | (refine .mk ⟨by omega, by omega⟩ ?_; refine ix_i hA ?_) | refine ldN_f hS 0 rfl (lb9 rfl) ?_ | refine ldN_elp encM_len (hRA hS.nil).at (i := i) (j0 := 0) hlt rfl (lb9 rfl) [.int .u8 xs[i].s.r, .int .u32 xs[i].s.n] rfl ?_ | refine ldN_elp encM_len (hRA hS.nil).at (i := i) (j0 := 2) hlt rfl (lb9 rfl) [.bool xs[i].s.v.d, .int .i64 xs[i].s.v.n, .slice xs[i].A xs[i].s.v.ks.length xs[i].c] rfl ?_ | (refine fc_m (hh _) ?_; rintro v w3 ⟨rfl, hS'⟩; replace hS := hS.call0 hS') | (refine fc_m (hcc _ ((hR.el _ hmx).below hS.nil) hoi.2) ?_; rintro v w3 ⟨rfl, hS'⟩; replace hS := hS.call0 hS') | (refine ldN_elp encM_len (hRA hS.nil).at (i := i - 1) (j0 := 0) hlt1 (by show off + (IntKind.i64.wrap ((i : Int) - 1)).toNat * 5 = off + (i - 1) * 5 + 0; omega) (lb9 rfl) [.int .u8 xs[i - 1].s.r, .int .u32 xs[i - 1].s.n] rfl ?_) | (refine fc_m (hol _) ?_; rintro v w3 ⟨rfl, hS'⟩; replace hS := hS.call0 hS') | (refine drawf TB_ok rfl (by kernel_rfl) (by kernel_rfl) hS (List.Sublist.refl _) (List.Sublist.refl _) ?_; intro w1 hS) | refine br_t (by assumption) ?_ | refine br_f (by assumption) ?_)
              exact ⟨rfl, hS.nil⟩
            | true =>
              rw [hll] at hol
              repeat ((conv => whnf); first | (apply q_i; focus (intro w1 hS; (conv => whnf); first | exact ⟨rfl, rfl⟩ | ((refine ld_f hS 0 rfl rfl ?_); (conv => whnf); exact ⟨rfl, rfl⟩) | ((refine ldA_f hS 0 rfl rfl ?_); (conv => whnf); exact ⟨rfl, rfl⟩))) | (refine nw_f hS ?_; intro b w1 hS) | refine as_i hS ?_ | refine as_i (hS.subs (List.nil_sublist _) sb9) ?_ | refine as_i (hS.subs (List.Sublist.refl _) sb9) ?_ | refine bar_f hS ?_ | refine ld_f hS 0 rfl rfl ?_ | refine ldA_f hS 0 rfl rfl ?_ | (refine stN_f hS 0 rfl (lb9 rfl) rfl rfl ?_; (conv => whnf); intro w1 hS) | (refine stM_f hS 0 rfl (lb9 rfl) rfl ?_; (conv => whnf); intro w1 hS) | refine br_t (by assumption) ?_ | refine br_f (by assumption) ?_)
              refine drawf TB_ok rfl (by kernel_rfl) (by kernel_rfl) hS (List.Sublist.refl _) (List.Sublist.refl _) ?_; intro w1 hS
              repeat ((conv => whnf); first | (apply q_i; focus (intro w1 hS; (conv => whnf); first | exact ⟨rfl, rfl⟩ | ((refine ld_f hS 0 rfl rfl ?_); (conv => whnf); exact ⟨rfl, rfl⟩) | ((refine ldA_f hS 0 rfl rfl ?_); (conv => whnf); exact ⟨rfl, rfl⟩) | ((refine .mk ⟨by omega, by omega⟩ ?_; refine ix_i hA ?_); (conv => whnf); exact ⟨rfl, rfl⟩) | ((refine ldN_f hS 0 rfl (lb9 rfl) ?_); (conv => whnf); exact ⟨rfl, rfl⟩) | ((refine ldN_elp encM_len (hRA hS.nil).at (i := i) (j0 := 0) hlt rfl (lb9 rfl) [.int .u8 xs[i].s.r, .int .u32 xs[i].s.n] rfl ?_); (conv => whnf); exact ⟨rfl, rfl⟩) | ((refine ldN_elp encM_len (hRA hS.nil).at (i := i) (j0 := 2) hlt rfl (lb9 rfl) [.bool xs[i].s.v.d, .int .i64 xs[i].s.v.n, .slice xs[i].A xs[i].s.v.ks.length xs[i].c] rfl ?_); (conv => whnf); exact ⟨rfl, rfl⟩) | ((refine fc_m (hh _) ?_; rintro v w3 ⟨rfl, hS'⟩; replace hS := hS.call0 hS'); (conv => whnf); exact ⟨rfl, rfl⟩) | ((refine fc_m (hcc _ ((hR.el _ hmx).below hS.nil) hoi.2) ?_; rintro v w3 ⟨rfl, hS'⟩; replace hS := hS.call0 hS'); (conv => whnf); exact ⟨rfl, rfl⟩) | ((refine ldN_elp encM_len (hRA hS.nil).at (i := i - 1) (j0 := 0) hlt1 (by show off + (IntKind.i64.wrap ((i : Int) - 1)).toNat * 5 = off + (i - 1) * 5 + 0; omega) (lb9 rfl) [.int .u8 xs[i - 1].s.r, .int .u32 xs[i - 1].s.n] rfl ?_); (conv => whnf); exact ⟨rfl, rfl⟩) | ((refine fc_m (hol _) ?_; rintro v w3 ⟨rfl, hS'⟩; replace hS := hS.call0 hS'); (conv => whnf); exact ⟨rfl, rfl⟩))) | (refine nw_f hS ?_; intro b w1 hS) | refine as_i hS ?_ | refine as_i (hS.subs (List.nil_sublist _) sb9) ?_ | refine as_i (hS.subs (List.Sublist.refl _) sb9) ?_ | refine bar_f hS ?_ | refine ld_f hS 0 rfl rfl ?_ | refine ldA_f hS 0 rfl rfl ?_ | (refine stN_f hS 0 rfl (lb9 rfl) rfl rfl ?_; (conv => whnf); intro w1 hS) | (refine stM_f hS 0 rfl (lb9 rfl) rfl ?_; (conv => whnf); intro w1 hS) | (refine .mk ⟨by omega, by omega⟩ ?_; refine ix_i hA ?_) | refine ldN_f hS 0 rfl (lb9 rfl) ?_ | refine ldN_elp encM_len (hRA hS.nil).at (i := i) (j0 := 0) hlt rfl (lb9 rfl) [.int .u8 xs[i].s.r, .int .u32 xs[i].s.n] rfl ?_ | refine ldN_elp encM_len (hRA hS.nil).at (i := i) (j0 := 2) hlt rfl (lb9 rfl) [.bool xs[i].s.v.d, .int .i64 xs[i].s.v.n, .slice xs[i].A xs[i].s.v.ks.length xs[i].c] rfl ?_ | (refine fc_m (hh _) ?_; rintro v w3 ⟨rfl, hS'⟩; replace hS := hS.call0 hS') | (refine fc_m (hcc _ ((hR.el _ hmx).below hS.nil) hoi.2) ?_; rintro v w3 ⟨rfl, hS'⟩; replace hS := hS.call0 hS') | (refine ldN_elp encM_len (hRA hS.nil).at (i := i - 1) (j0 := 0) hlt1 (by show off + (IntKind.i64.wrap ((i : Int) - 1)).toNat * 5 = off + (i - 1) * 5 + 0; omega) (lb9 rfl) [.int .u8 xs[i - 1].s.r, .int .u32 xs[i - 1].s.n] rfl ?_) | (refine fc_m (hol _) ?_; rintro v w3 ⟨rfl, hS'⟩; replace hS := hS.call0 hS') | (refine drawf TB_ok rfl (by kernel_rfl) (by kernel_rfl) hS (List.Sublist.refl _) (List.Sublist.refl _) ?_; intro w1 hS) | refine br_t (by assumption) ?_ | refine br_f (by assumption) ?_)
              refine ⟨rfl, i + 1, ?_, ⟨by omega, fun j h => ?_, hS⟩, by omega⟩
              · rw [wi hlt (by omega)]
                rfl
              · by_cases e : j = i
                · subst e; exact fun _ => ⟨hb, hk, fun _ => hll⟩
                · exact hj j (by omega)
          · have g0 : decide ((0 : Int) < (i : Int)) = false := decide_eq_false (by omega)
            repeat ((conv => whnf); first | (apply q_i; focus (intro w1 hS; (conv => whnf); first | exact ⟨rfl, rfl⟩ | ((refine ld_f hS 0 rfl rfl ?_); (conv => whnf); exact ⟨rfl, rfl⟩) | ((refine ldA_f hS 0 rfl rfl ?_); (conv => whnf); exact ⟨rfl, rfl⟩))) | (refine nw_f hS ?_; intro b w1 hS) | refine as_i hS ?_ | refine as_i (hS.subs (List.nil_sublist _) sb9) ?_ | refine as_i (hS.subs (List.Sublist.refl _) sb9) ?_ | refine bar_f hS ?_ | refine ld_f hS 0 rfl rfl ?_ | refine ldA_f hS 0 rfl rfl ?_ | (refine stN_f hS 0 rfl (lb9 rfl) rfl rfl ?_; (conv => whnf); intro w1 hS) | (refine stM_f hS 0 rfl (lb9 rfl) rfl ?_; (conv => whnf); intro w1 hS) | refine br_t (by assumption) ?_ | refine br_f (by assumption) ?_)
            refine drawf TB_ok rfl (by kernel_rfl) (by kernel_rfl) hS (List.Sublist.refl _) (List.Sublist.refl _) ?_; intro w1 hS
            repeat ((conv => whnf); first | (apply q_i; focus (intro w1 hS; (conv => whnf); first | exact ⟨rfl, rfl⟩ | ((refine ld_f hS 0 rfl rfl ?_); (conv => whnf); exact ⟨rfl, rfl⟩) | ((refine ldA_f hS 0 rfl rfl ?_); (conv => whnf); exact ⟨rfl, rfl⟩) | ((refine .mk ⟨by omega, by omega⟩ ?_; refine ix_i hA ?_); (conv => whnf); exact ⟨rfl, rfl⟩) | ((refine ldN_f hS 0 rfl (lb9 rfl) ?_); (conv => whnf); exact ⟨rfl, rfl⟩) | ((refine ldN_elp encM_len (hRA hS.nil).at (i := i) (j0 := 0) hlt rfl (lb9 rfl) [.int .u8 xs[i].s.r, .int .u32 xs[i].s.n] rfl ?_); (conv => whnf); exact ⟨rfl, rfl⟩) | ((refine ldN_elp encM_len (hRA hS.nil).at (i := i) (j0 := 2) hlt rfl (lb9 rfl) [.bool xs[i].s.v.d, .int .i64 xs[i].s.v.n, .slice xs[i].A xs[i].s.v.ks.length xs[i].c] rfl ?_); (conv => whnf); exact ⟨rfl, rfl⟩) | ((refine fc_m (hh _) ?_; rintro v w3 ⟨rfl, hS'⟩; replace hS := hS.call0 hS'); (conv => whnf); exact ⟨rfl, rfl⟩) | ((refine fc_m (hcc _ ((hR.el _ hmx).below hS.nil) hoi.2) ?_; rintro v w3 ⟨rfl, hS'⟩; replace hS := hS.call0 hS'); (conv => whnf); exact ⟨rfl, rfl⟩))) | (refine nw_f hS ?_; intro b w1 hS) | refine as_i hS ?_ | refine as_i (hS.subs (List.nil_sublist _) sb9) ?_ | refine as_i (hS.subs (List.Sublist.refl _) sb9) ?_ | refine bar_f hS ?_ | refine ld_f hS 0 rfl rfl ?_ | refine ldA_f hS 0 rfl rfl ?_ | (refine stN_f hS 0 rfl (lb9 rfl) rfl rfl ?_; (conv => whnf); intro w1 hS) | (refine stM_f hS 0 rfl (lb9 rfl) rfl ?_; (conv => whnf); intro w1 hS) | (refine .mk ⟨by omega, by omega⟩ ?_; refine ix_i hA ?_) | refine ldN_f hS 0 rfl (lb9 rfl) ?_ | refine ldN_elp encM_len (hRA hS.nil).at (i := i) (j0 := 0) hlt rfl (lb9 rfl) [.int .u8 xs[i].s.r, .int .u32 xs[i].s.n] rfl ?_ | refine ldN_elp encM_len (hRA hS.nil).at (i := i) (j0 := 2) hlt rfl (lb9 rfl) [.bool xs[i].s.v.d, .int .i64 xs[i].s.v.n, .slice xs[i].A xs[i].s.v.ks.length xs[i].c] rfl ?_ | (refine fc_m (hh _) ?_; rintro v w3 ⟨rfl, hS'⟩; replace hS := hS.call0 hS') | (refine fc_m (hcc _ ((hR.el _ hmx).below hS.nil) hoi.2) ?_; rintro v w3 ⟨rfl, hS'⟩; replace hS := hS.call0 hS') | (refine drawf TB_ok rfl (by kernel_rfl) (by kernel_rfl) hS (List.Sublist.refl _) (List.Sublist.refl _) ?_; intro w1 hS) | refine br_t (by assumption) ?_ | refine br_f (by assumption) ?_)
            refine ⟨rfl, i + 1, ?_, ⟨by omega, fun j h => ?_, hS⟩, by omega⟩
            · rw [wi hlt (by omega)]
              rfl
            · by_cases e : j = i
              · subst e; exact fun _ => ⟨hb, hk, fun h => absurd h h0⟩
              · exact hj j (by omega)
    · have h1 : decide ((i : Int) < (xs.length : Int)) = false := decide_eq_false (by omega)
      rw [hiff.2 ⟨hm, by omega, fun j h => hj j (by omega) h⟩]
      repeat ((conv => whnf); first | (apply q_i; focus (intro w1 hS; (conv => whnf); first | exact ⟨rfl, rfl⟩ | ((refine ld_f hS 0 rfl rfl ?_); (conv => whnf); exact ⟨rfl, rfl⟩) | ((refine ldA_f hS 0 rfl rfl ?_); (conv => whnf); exact ⟨rfl, rfl⟩))) | (refine nw_f hS ?_; intro b w1 hS) | refine as_i hS ?_ | refine as_i (hS.subs (List.nil_sublist _) sb9) ?_ | refine as_i (hS.subs (List.Sublist.refl _) sb9) ?_ | refine bar_f hS ?_ | refine ld_f hS 0 rfl rfl ?_ | refine ldA_f hS 0 rfl rfl ?_ | (refine stN_f hS 0 rfl (lb9 rfl) rfl rfl ?_; (conv => whnf); intro w1 hS) | (refine stM_f hS 0 rfl (lb9 rfl) rfl ?_; (conv => whnf); intro w1 hS) | (refine drawf TB_ok rfl (by kernel_rfl) (by kernel_rfl) hS (List.Sublist.refl _) (List.Sublist.refl _) ?_; intro w1 hS) | refine br_t (by assumption) ?_ | refine br_f (by assumption) ?_)
      exact ⟨rfl, hS.nil⟩
set_option maxHeartbeats 16000000 in
theorem rMay18_c (x : Rx) (ho : okR x) (hz : fewR x) (h : Hd) (ms : List Sm) (w : World) (hx : MemR w x h ms) :
    Fc Tryz.prog 18 [recV x h] w fun v w' => v = .bool (checkR x) ∧ St [] w w' [] := by
  have hreg : ∀ w', RdM w' h.A ms → Fc Tryz.prog 43 [regV x.f h.A x.xs.length h.c] w' fun v w'' => v = .bool (regB x.f x.xs) ∧ St [] w' w'' [] := fun w' p => by
    have := mayReg_c x.f h.A h.c ms w' p (by rw [← hx.len]; have := hz.l; omega) (fun m hm => by
      have hm' : m.s ∈ x.xs := by rw [hx.eq]; exact List.mem_map_of_mem hm
      exact ⟨ho.xs _ hm', by have := hz.el _ hm'; omega⟩)
    rwa [← hx.eq, ← hx.len] at this
  have hs := fun (w' : World) (p : MemR w' x h ms) => rSame18_c x (needR x) h (needH x h) ms (needM x ms) w' p p.need (by have := hz.l; omega) (fun s hs => by have := hz.el s hs; omega) (by have := hz.v; omega)
  have hva := fun (w' : World) p => rmay_v x.v.d x.v.n ho.v.1.1 ho.v.1.2 h.B h.e x.v.ks w' p (by have := hz.v; omega)
  have hpn := hz.p
  have hck : checkR x = (mayR x && sameR x (needR x)) := rfl
  rw [hck]
  clear hck
  rcases kinds x.k with hk | hk | hk | hk | hk | hk | hk | hk | hk
  · have hm : mayR x = decide (x.r ≤ 7) := by
      unfold mayR
      rw [if_pos hk]
      exact decide_eq_decide.2 (by omega)
    have hn : needR x = { zeroRx x.k with r := x.r } := by
      unfold needR
      rw [if_pos hk]
    have hh : needH x h = noHd := by
      unfold needH
      rw [if_neg (by omega), if_neg (by omega)]
    rw [hm]
    rw [hn, hh] at hs
    rw [hn]
    clear hm hn hh
    have g1 : (x.k == 1) = true := by rw [hk]; rfl
    have g2 : (x.k == 2) = false := by rw [hk]; rfl
    have g3 : (x.k == 3) = false := by rw [hk]; rfl
    have g4 : (x.k == 4) = false := by rw [hk]; rfl
    have g5 : (x.k == 5) = false := by rw [hk]; rfl
    have g6 : (x.k == 6) = false := by rw [hk]; rfl
    have g7 : (x.k == 7) = false := by rw [hk]; rfl
    have g8 : (x.k == 8) = false := by rw [hk]; rfl
    generalize sameR x ({ zeroRx x.k with r := x.r }) = q at *
    refine fc_i TB_ok Tryz.func18 rfl (by kernel_rfl) ?_
    have hS := Sf.refl w
    repeat' ((conv => whnf); first | refine And.intro ?_ ?_ | (apply q_i; focus (intro w1 hS; (conv => whnf); first | exact ⟨rfl, rfl⟩ | ((refine ld_f hS 0 rfl rfl ?_); (conv => whnf); exact ⟨rfl, rfl⟩) | ((refine ld_f hS 1 rfl rfl ?_); (conv => whnf); exact ⟨rfl, rfl⟩) | ((refine ld_f hS 2 rfl rfl ?_); (conv => whnf); exact ⟨rfl, rfl⟩) | ((refine ldA_f hS 0 rfl rfl ?_); (conv => whnf); exact ⟨rfl, rfl⟩) | ((refine ldA_f hS 1 rfl rfl ?_); (conv => whnf); exact ⟨rfl, rfl⟩) | ((refine ldA_f hS 2 rfl rfl ?_); (conv => whnf); exact ⟨rfl, rfl⟩) | ((refine ldN_f hS 0 rfl (lb9 rfl) ?_); (conv => whnf); exact ⟨rfl, rfl⟩) | ((refine ldN_f hS 1 rfl (lb9 rfl) ?_); (conv => whnf); exact ⟨rfl, rfl⟩) | ((refine ldN_f hS 2 rfl (lb9 rfl) ?_); (conv => whnf); exact ⟨rfl, rfl⟩) | ((refine fc_m (named_c x.p (by omega) _) ?_; rintro v w3 ⟨rfl, hS'⟩; replace hS := hS.call0 hS'); (conv => whnf); exact ⟨rfl, rfl⟩) | ((refine fc_m (hreg _ (hx.l.below hS.nil)) ?_; rintro v w3 ⟨rfl, hS'⟩; replace hS := hS.call0 hS'); (conv => whnf); exact ⟨rfl, rfl⟩) | ((refine fc_m (hva _ (hx.v.below hS.nil)) ?_; rintro v w3 ⟨rfl, hS'⟩; replace hS := hS.call0 hS'); (conv => whnf); exact ⟨rfl, rfl⟩) | ((refine fc_m (rmay_c x.g _) ?_; rintro v w3 ⟨rfl, hS'⟩; replace hS := hS.call0 hS'); (conv => whnf); exact ⟨rfl, rfl⟩) | ((refine fc_m (hs _ (hx.below hS.nil)) ?_; rintro v w3 ⟨rfl, hS'⟩; replace hS := hS.call0 hS'); (conv => whnf); exact ⟨rfl, rfl⟩) | ((refine .mk ⟨by omega, by omega⟩ ?_); (conv => whnf); exact ⟨rfl, rfl⟩) | ((refine br_t (by assumption) ?_); (conv => whnf); exact ⟨rfl, rfl⟩) | ((refine br_f (by assumption) ?_); (conv => whnf); exact ⟨rfl, rfl⟩) | ((refine br_i (fun _ => ?_) (fun _ => ?_)); (conv => whnf); exact ⟨rfl, rfl⟩))) | (refine nw_f hS ?_; intro b w1 hS) | refine as_i hS ?_ | refine as_i (hS.subs (List.nil_sublist _) sb9) ?_ | refine as_i (hS.subs (List.Sublist.refl _) sb9) ?_ | refine bar_f hS ?_ | refine ld_f hS 0 rfl rfl ?_ | refine ld_f hS 1 rfl rfl ?_ | refine ld_f hS 2 rfl rfl ?_ | refine ldA_f hS 0 rfl rfl ?_ | refine ldA_f hS 1 rfl rfl ?_ | refine ldA_f hS 2 rfl rfl ?_ | (refine stN_f hS 0 rfl (lb9 rfl) rfl rfl ?_; (conv => whnf); intro w1 hS) | (refine stN_f hS 1 rfl (lb9 rfl) rfl rfl ?_; (conv => whnf); intro w1 hS) | (refine stN_f hS 2 rfl (lb9 rfl) rfl rfl ?_; (conv => whnf); intro w1 hS) | (refine stM_f hS 0 rfl (lb9 rfl) rfl ?_; (conv => whnf); intro w1 hS) | (refine stM_f hS 1 rfl (lb9 rfl) rfl ?_; (conv => whnf); intro w1 hS) | (refine stM_f hS 2 rfl (lb9 rfl) rfl ?_; (conv => whnf); intro w1 hS) | refine ldN_f hS 0 rfl (lb9 rfl) ?_ | refine ldN_f hS 1 rfl (lb9 rfl) ?_ | refine ldN_f hS 2 rfl (lb9 rfl) ?_ | (refine fc_m (named_c x.p (by omega) _) ?_; rintro v w3 ⟨rfl, hS'⟩; replace hS := hS.call0 hS') | (refine fc_m (hreg _ (hx.l.below hS.nil)) ?_; rintro v w3 ⟨rfl, hS'⟩; replace hS := hS.call0 hS') | (refine fc_m (hva _ (hx.v.below hS.nil)) ?_; rintro v w3 ⟨rfl, hS'⟩; replace hS := hS.call0 hS') | (refine fc_m (rmay_c x.g _) ?_; rintro v w3 ⟨rfl, hS'⟩; replace hS := hS.call0 hS') | (refine fc_m (hs _ (hx.below hS.nil)) ?_; rintro v w3 ⟨rfl, hS'⟩; replace hS := hS.call0 hS') | refine .mk ⟨by omega, by omega⟩ ?_ | refine br_t (by assumption) ?_ | refine br_f (by assumption) ?_ | (refine br_i (fun _ => ?_) (fun _ => ?_)) | (refine drawf TB_ok rfl (by kernel_rfl) (by kernel_rfl) hS (List.Sublist.refl _) (List.Sublist.refl _) ?_; intro w1 hS) | refine br_t (by assumption) ?_ | refine br_f (by assumption) ?_)
    all_goals first
      | exact hS.nil
      | rfl
      | (refine congrArg Value.bool ?_; simp only [*, Bool.not_true, Bool.not_false, Bool.and_true, Bool.true_and, Bool.false_and, Bool.and_false, Bool.or_true, Bool.true_or, Bool.or_false, Bool.false_or])
  · have hm : mayR x = (decide (x.n0 ≤ 1073741824) && (decide (1 ≤ x.n1) && decide (1 ≤ x.n2))) := by
      unfold mayR
      rw [if_neg (by omega), if_pos hk]
      exact rfl
    have hn : needR x = { zeroRx x.k with n0 := x.n0, n1 := x.n1, n2 := x.n2 } := by
      unfold needR
      rw [if_neg (by omega), if_pos hk]
    have hh : needH x h = noHd := by
      unfold needH
      rw [if_neg (by omega), if_neg (by omega)]
    rw [hm]
    rw [hn, hh] at hs
    rw [hn]
    clear hm hn hh
    have g1 : (x.k == 1) = false := by rw [hk]; rfl
    have g2 : (x.k == 2) = true := by rw [hk]; rfl
    have g3 : (x.k == 3) = false := by rw [hk]; rfl
    have g4 : (x.k == 4) = false := by rw [hk]; rfl
    have g5 : (x.k == 5) = false := by rw [hk]; rfl
    have g6 : (x.k == 6) = false := by rw [hk]; rfl
    have g7 : (x.k == 7) = false := by rw [hk]; rfl
    have g8 : (x.k == 8) = false := by rw [hk]; rfl
    generalize sameR x ({ zeroRx x.k with n0 := x.n0, n1 := x.n1, n2 := x.n2 }) = q at *
    refine fc_i TB_ok Tryz.func18 rfl (by kernel_rfl) ?_
    have hS := Sf.refl w
    repeat' ((conv => whnf); first | refine And.intro ?_ ?_ | (apply q_i; focus (intro w1 hS; (conv => whnf); first | exact ⟨rfl, rfl⟩ | ((refine ld_f hS 0 rfl rfl ?_); (conv => whnf); exact ⟨rfl, rfl⟩) | ((refine ld_f hS 1 rfl rfl ?_); (conv => whnf); exact ⟨rfl, rfl⟩) | ((refine ld_f hS 2 rfl rfl ?_); (conv => whnf); exact ⟨rfl, rfl⟩) | ((refine ldA_f hS 0 rfl rfl ?_); (conv => whnf); exact ⟨rfl, rfl⟩) | ((refine ldA_f hS 1 rfl rfl ?_); (conv => whnf); exact ⟨rfl, rfl⟩) | ((refine ldA_f hS 2 rfl rfl ?_); (conv => whnf); exact ⟨rfl, rfl⟩) | ((refine ldN_f hS 0 rfl (lb9 rfl) ?_); (conv => whnf); exact ⟨rfl, rfl⟩) | ((refine ldN_f hS 1 rfl (lb9 rfl) ?_); (conv => whnf); exact ⟨rfl, rfl⟩) | ((refine ldN_f hS 2 rfl (lb9 rfl) ?_); (conv => whnf); exact ⟨rfl, rfl⟩) | ((refine fc_m (named_c x.p (by omega) _) ?_; rintro v w3 ⟨rfl, hS'⟩; replace hS := hS.call0 hS'); (conv => whnf); exact ⟨rfl, rfl⟩) | ((refine fc_m (hreg _ (hx.l.below hS.nil)) ?_; rintro v w3 ⟨rfl, hS'⟩; replace hS := hS.call0 hS'); (conv => whnf); exact ⟨rfl, rfl⟩) | ((refine fc_m (hva _ (hx.v.below hS.nil)) ?_; rintro v w3 ⟨rfl, hS'⟩; replace hS := hS.call0 hS'); (conv => whnf); exact ⟨rfl, rfl⟩) | ((refine fc_m (rmay_c x.g _) ?_; rintro v w3 ⟨rfl, hS'⟩; replace hS := hS.call0 hS'); (conv => whnf); exact ⟨rfl, rfl⟩) | ((refine fc_m (hs _ (hx.below hS.nil)) ?_; rintro v w3 ⟨rfl, hS'⟩; replace hS := hS.call0 hS'); (conv => whnf); exact ⟨rfl, rfl⟩) | ((refine .mk ⟨by omega, by omega⟩ ?_); (conv => whnf); exact ⟨rfl, rfl⟩) | ((refine br_t (by assumption) ?_); (conv => whnf); exact ⟨rfl, rfl⟩) | ((refine br_f (by assumption) ?_); (conv => whnf); exact ⟨rfl, rfl⟩) | ((refine br_i (fun _ => ?_) (fun _ => ?_)); (conv => whnf); exact ⟨rfl, rfl⟩))) | (refine nw_f hS ?_; intro b w1 hS) | refine as_i hS ?_ | refine as_i (hS.subs (List.nil_sublist _) sb9) ?_ | refine as_i (hS.subs (List.Sublist.refl _) sb9) ?_ | refine bar_f hS ?_ | refine ld_f hS 0 rfl rfl ?_ | refine ld_f hS 1 rfl rfl ?_ | refine ld_f hS 2 rfl rfl ?_ | refine ldA_f hS 0 rfl rfl ?_ | refine ldA_f hS 1 rfl rfl ?_ | refine ldA_f hS 2 rfl rfl ?_ | (refine stN_f hS 0 rfl (lb9 rfl) rfl rfl ?_; (conv => whnf); intro w1 hS) | (refine stN_f hS 1 rfl (lb9 rfl) rfl rfl ?_; (conv => whnf); intro w1 hS) | (refine stN_f hS 2 rfl (lb9 rfl) rfl rfl ?_; (conv => whnf); intro w1 hS) | (refine stM_f hS 0 rfl (lb9 rfl) rfl ?_; (conv => whnf); intro w1 hS) | (refine stM_f hS 1 rfl (lb9 rfl) rfl ?_; (conv => whnf); intro w1 hS) | (refine stM_f hS 2 rfl (lb9 rfl) rfl ?_; (conv => whnf); intro w1 hS) | refine ldN_f hS 0 rfl (lb9 rfl) ?_ | refine ldN_f hS 1 rfl (lb9 rfl) ?_ | refine ldN_f hS 2 rfl (lb9 rfl) ?_ | (refine fc_m (named_c x.p (by omega) _) ?_; rintro v w3 ⟨rfl, hS'⟩; replace hS := hS.call0 hS') | (refine fc_m (hreg _ (hx.l.below hS.nil)) ?_; rintro v w3 ⟨rfl, hS'⟩; replace hS := hS.call0 hS') | (refine fc_m (hva _ (hx.v.below hS.nil)) ?_; rintro v w3 ⟨rfl, hS'⟩; replace hS := hS.call0 hS') | (refine fc_m (rmay_c x.g _) ?_; rintro v w3 ⟨rfl, hS'⟩; replace hS := hS.call0 hS') | (refine fc_m (hs _ (hx.below hS.nil)) ?_; rintro v w3 ⟨rfl, hS'⟩; replace hS := hS.call0 hS') | refine .mk ⟨by omega, by omega⟩ ?_ | refine br_t (by assumption) ?_ | refine br_f (by assumption) ?_ | (refine br_i (fun _ => ?_) (fun _ => ?_)) | (refine drawf TB_ok rfl (by kernel_rfl) (by kernel_rfl) hS (List.Sublist.refl _) (List.Sublist.refl _) ?_; intro w1 hS) | refine br_t (by assumption) ?_ | refine br_f (by assumption) ?_)
    all_goals first
      | exact hS.nil
      | rfl
      | (refine congrArg Value.bool ?_; simp only [*, Bool.not_true, Bool.not_false, Bool.and_true, Bool.true_and, Bool.false_and, Bool.and_false, Bool.or_true, Bool.true_or, Bool.or_false, Bool.false_or])
  · have hm : mayR x = (decide (x.rk ≤ 1) && (decide (0 ≤ x.rq) && decide (x.rq ≤ 1073741824))) := by
      unfold mayR
      rw [if_neg (by omega), if_neg (by omega), if_pos hk]
      exact rfl
    have hn : needR x = { zeroRx x.k with rk := x.rk, ra := x.ra, rq := x.rq } := by
      unfold needR
      rw [if_neg (by omega), if_neg (by omega), if_pos hk]
    have hh : needH x h = noHd := by
      unfold needH
      rw [if_neg (by omega), if_neg (by omega)]
    rw [hm]
    rw [hn, hh] at hs
    rw [hn]
    clear hm hn hh
    have g1 : (x.k == 1) = false := by rw [hk]; rfl
    have g2 : (x.k == 2) = false := by rw [hk]; rfl
    have g3 : (x.k == 3) = true := by rw [hk]; rfl
    have g4 : (x.k == 4) = false := by rw [hk]; rfl
    have g5 : (x.k == 5) = false := by rw [hk]; rfl
    have g6 : (x.k == 6) = false := by rw [hk]; rfl
    have g7 : (x.k == 7) = false := by rw [hk]; rfl
    have g8 : (x.k == 8) = false := by rw [hk]; rfl
    generalize sameR x ({ zeroRx x.k with rk := x.rk, ra := x.ra, rq := x.rq }) = q at *
    refine fc_i TB_ok Tryz.func18 rfl (by kernel_rfl) ?_
    have hS := Sf.refl w
    repeat' ((conv => whnf); first | refine And.intro ?_ ?_ | (apply q_i; focus (intro w1 hS; (conv => whnf); first | exact ⟨rfl, rfl⟩ | ((refine ld_f hS 0 rfl rfl ?_); (conv => whnf); exact ⟨rfl, rfl⟩) | ((refine ld_f hS 1 rfl rfl ?_); (conv => whnf); exact ⟨rfl, rfl⟩) | ((refine ld_f hS 2 rfl rfl ?_); (conv => whnf); exact ⟨rfl, rfl⟩) | ((refine ldA_f hS 0 rfl rfl ?_); (conv => whnf); exact ⟨rfl, rfl⟩) | ((refine ldA_f hS 1 rfl rfl ?_); (conv => whnf); exact ⟨rfl, rfl⟩) | ((refine ldA_f hS 2 rfl rfl ?_); (conv => whnf); exact ⟨rfl, rfl⟩) | ((refine ldN_f hS 0 rfl (lb9 rfl) ?_); (conv => whnf); exact ⟨rfl, rfl⟩) | ((refine ldN_f hS 1 rfl (lb9 rfl) ?_); (conv => whnf); exact ⟨rfl, rfl⟩) | ((refine ldN_f hS 2 rfl (lb9 rfl) ?_); (conv => whnf); exact ⟨rfl, rfl⟩) | ((refine fc_m (named_c x.p (by omega) _) ?_; rintro v w3 ⟨rfl, hS'⟩; replace hS := hS.call0 hS'); (conv => whnf); exact ⟨rfl, rfl⟩) | ((refine fc_m (hreg _ (hx.l.below hS.nil)) ?_; rintro v w3 ⟨rfl, hS'⟩; replace hS := hS.call0 hS'); (conv => whnf); exact ⟨rfl, rfl⟩) | ((refine fc_m (hva _ (hx.v.below hS.nil)) ?_; rintro v w3 ⟨rfl, hS'⟩; replace hS := hS.call0 hS'); (conv => whnf); exact ⟨rfl, rfl⟩) | ((refine fc_m (rmay_c x.g _) ?_; rintro v w3 ⟨rfl, hS'⟩; replace hS := hS.call0 hS'); (conv => whnf); exact ⟨rfl, rfl⟩) | ((refine fc_m (hs _ (hx.below hS.nil)) ?_; rintro v w3 ⟨rfl, hS'⟩; replace hS := hS.call0 hS'); (conv => whnf); exact ⟨rfl, rfl⟩) | ((refine .mk ⟨by omega, by omega⟩ ?_); (conv => whnf); exact ⟨rfl, rfl⟩) | ((refine br_t (by assumption) ?_); (conv => whnf); exact ⟨rfl, rfl⟩) | ((refine br_f (by assumption) ?_); (conv => whnf); exact ⟨rfl, rfl⟩) | ((refine br_i (fun _ => ?_) (fun _ => ?_)); (conv => whnf); exact ⟨rfl, rfl⟩))) | (refine nw_f hS ?_; intro b w1 hS) | refine as_i hS ?_ | refine as_i (hS.subs (List.nil_sublist _) sb9) ?_ | refine as_i (hS.subs (List.Sublist.refl _) sb9) ?_ | refine bar_f hS ?_ | refine ld_f hS 0 rfl rfl ?_ | refine ld_f hS 1 rfl rfl ?_ | refine ld_f hS 2 rfl rfl ?_ | refine ldA_f hS 0 rfl rfl ?_ | refine ldA_f hS 1 rfl rfl ?_ | refine ldA_f hS 2 rfl rfl ?_ | (refine stN_f hS 0 rfl (lb9 rfl) rfl rfl ?_; (conv => whnf); intro w1 hS) | (refine stN_f hS 1 rfl (lb9 rfl) rfl rfl ?_; (conv => whnf); intro w1 hS) | (refine stN_f hS 2 rfl (lb9 rfl) rfl rfl ?_; (conv => whnf); intro w1 hS) | (refine stM_f hS 0 rfl (lb9 rfl) rfl ?_; (conv => whnf); intro w1 hS) | (refine stM_f hS 1 rfl (lb9 rfl) rfl ?_; (conv => whnf); intro w1 hS) | (refine stM_f hS 2 rfl (lb9 rfl) rfl ?_; (conv => whnf); intro w1 hS) | refine ldN_f hS 0 rfl (lb9 rfl) ?_ | refine ldN_f hS 1 rfl (lb9 rfl) ?_ | refine ldN_f hS 2 rfl (lb9 rfl) ?_ | (refine fc_m (named_c x.p (by omega) _) ?_; rintro v w3 ⟨rfl, hS'⟩; replace hS := hS.call0 hS') | (refine fc_m (hreg _ (hx.l.below hS.nil)) ?_; rintro v w3 ⟨rfl, hS'⟩; replace hS := hS.call0 hS') | (refine fc_m (hva _ (hx.v.below hS.nil)) ?_; rintro v w3 ⟨rfl, hS'⟩; replace hS := hS.call0 hS') | (refine fc_m (rmay_c x.g _) ?_; rintro v w3 ⟨rfl, hS'⟩; replace hS := hS.call0 hS') | (refine fc_m (hs _ (hx.below hS.nil)) ?_; rintro v w3 ⟨rfl, hS'⟩; replace hS := hS.call0 hS') | refine .mk ⟨by omega, by omega⟩ ?_ | refine br_t (by assumption) ?_ | refine br_f (by assumption) ?_ | (refine br_i (fun _ => ?_) (fun _ => ?_)) | (refine drawf TB_ok rfl (by kernel_rfl) (by kernel_rfl) hS (List.Sublist.refl _) (List.Sublist.refl _) ?_; intro w1 hS) | refine br_t (by assumption) ?_ | refine br_f (by assumption) ?_)
    all_goals first
      | exact hS.nil
      | rfl
      | (refine congrArg Value.bool ?_; simp only [*, Bool.not_true, Bool.not_false, Bool.and_true, Bool.true_and, Bool.false_and, Bool.and_false, Bool.or_true, Bool.true_or, Bool.or_false, Bool.false_or])
  · have hm : mayR x = (namedB x.p && regB x.f x.xs) := by
      unfold mayR
      rw [if_neg (by omega), if_neg (by omega), if_neg (by omega), if_pos hk]
    have hn : needR x = { zeroRx x.k with p := x.p, f := x.f, xs := x.xs } := by
      unfold needR
      rw [if_neg (by omega), if_neg (by omega), if_neg (by omega), if_pos hk]
    have hh : needH x h = ⟨h.A, h.c, none, 0⟩ := by
      unfold needH
      rw [if_pos hk]
    rw [hm]
    rw [hn, hh] at hs
    rw [hn]
    clear hm hn hh
    have g1 : (x.k == 1) = false := by rw [hk]; rfl
    have g2 : (x.k == 2) = false := by rw [hk]; rfl
    have g3 : (x.k == 3) = false := by rw [hk]; rfl
    have g4 : (x.k == 4) = true := by rw [hk]; rfl
    have g5 : (x.k == 5) = false := by rw [hk]; rfl
    have g6 : (x.k == 6) = false := by rw [hk]; rfl
    have g7 : (x.k == 7) = false := by rw [hk]; rfl
    have g8 : (x.k == 8) = false := by rw [hk]; rfl
    generalize sameR x ({ zeroRx x.k with p := x.p, f := x.f, xs := x.xs }) = q at *
    refine fc_i TB_ok Tryz.func18 rfl (by kernel_rfl) ?_
    have hS := Sf.refl w
    repeat' ((conv => whnf); first | refine And.intro ?_ ?_ | (apply q_i; focus (intro w1 hS; (conv => whnf); first | exact ⟨rfl, rfl⟩ | ((refine ld_f hS 0 rfl rfl ?_); (conv => whnf); exact ⟨rfl, rfl⟩) | ((refine ld_f hS 1 rfl rfl ?_); (conv => whnf); exact ⟨rfl, rfl⟩) | ((refine ld_f hS 2 rfl rfl ?_); (conv => whnf); exact ⟨rfl, rfl⟩) | ((refine ldA_f hS 0 rfl rfl ?_); (conv => whnf); exact ⟨rfl, rfl⟩) | ((refine ldA_f hS 1 rfl rfl ?_); (conv => whnf); exact ⟨rfl, rfl⟩) | ((refine ldA_f hS 2 rfl rfl ?_); (conv => whnf); exact ⟨rfl, rfl⟩) | ((refine ldN_f hS 0 rfl (lb9 rfl) ?_); (conv => whnf); exact ⟨rfl, rfl⟩) | ((refine ldN_f hS 1 rfl (lb9 rfl) ?_); (conv => whnf); exact ⟨rfl, rfl⟩) | ((refine ldN_f hS 2 rfl (lb9 rfl) ?_); (conv => whnf); exact ⟨rfl, rfl⟩) | ((refine fc_m (named_c x.p (by omega) _) ?_; rintro v w3 ⟨rfl, hS'⟩; replace hS := hS.call0 hS'); (conv => whnf); exact ⟨rfl, rfl⟩) | ((refine fc_m (hreg _ (hx.l.below hS.nil)) ?_; rintro v w3 ⟨rfl, hS'⟩; replace hS := hS.call0 hS'); (conv => whnf); exact ⟨rfl, rfl⟩) | ((refine fc_m (hva _ (hx.v.below hS.nil)) ?_; rintro v w3 ⟨rfl, hS'⟩; replace hS := hS.call0 hS'); (conv => whnf); exact ⟨rfl, rfl⟩) | ((refine fc_m (rmay_c x.g _) ?_; rintro v w3 ⟨rfl, hS'⟩; replace hS := hS.call0 hS'); (conv => whnf); exact ⟨rfl, rfl⟩) | ((refine fc_m (hs _ (hx.below hS.nil)) ?_; rintro v w3 ⟨rfl, hS'⟩; replace hS := hS.call0 hS'); (conv => whnf); exact ⟨rfl, rfl⟩) | ((refine .mk ⟨by omega, by omega⟩ ?_); (conv => whnf); exact ⟨rfl, rfl⟩) | ((refine br_t (by assumption) ?_); (conv => whnf); exact ⟨rfl, rfl⟩) | ((refine br_f (by assumption) ?_); (conv => whnf); exact ⟨rfl, rfl⟩) | ((refine br_i (fun _ => ?_) (fun _ => ?_)); (conv => whnf); exact ⟨rfl, rfl⟩))) | (refine nw_f hS ?_; intro b w1 hS) | refine as_i hS ?_ | refine as_i (hS.subs (List.nil_sublist _) sb9) ?_ | refine as_i (hS.subs (List.Sublist.refl _) sb9) ?_ | refine bar_f hS ?_ | refine ld_f hS 0 rfl rfl ?_ | refine ld_f hS 1 rfl rfl ?_ | refine ld_f hS 2 rfl rfl ?_ | refine ldA_f hS 0 rfl rfl ?_ | refine ldA_f hS 1 rfl rfl ?_ | refine ldA_f hS 2 rfl rfl ?_ | (refine stN_f hS 0 rfl (lb9 rfl) rfl rfl ?_; (conv => whnf); intro w1 hS) | (refine stN_f hS 1 rfl (lb9 rfl) rfl rfl ?_; (conv => whnf); intro w1 hS) | (refine stN_f hS 2 rfl (lb9 rfl) rfl rfl ?_; (conv => whnf); intro w1 hS) | (refine stM_f hS 0 rfl (lb9 rfl) rfl ?_; (conv => whnf); intro w1 hS) | (refine stM_f hS 1 rfl (lb9 rfl) rfl ?_; (conv => whnf); intro w1 hS) | (refine stM_f hS 2 rfl (lb9 rfl) rfl ?_; (conv => whnf); intro w1 hS) | refine ldN_f hS 0 rfl (lb9 rfl) ?_ | refine ldN_f hS 1 rfl (lb9 rfl) ?_ | refine ldN_f hS 2 rfl (lb9 rfl) ?_ | (refine fc_m (named_c x.p (by omega) _) ?_; rintro v w3 ⟨rfl, hS'⟩; replace hS := hS.call0 hS') | (refine fc_m (hreg _ (hx.l.below hS.nil)) ?_; rintro v w3 ⟨rfl, hS'⟩; replace hS := hS.call0 hS') | (refine fc_m (hva _ (hx.v.below hS.nil)) ?_; rintro v w3 ⟨rfl, hS'⟩; replace hS := hS.call0 hS') | (refine fc_m (rmay_c x.g _) ?_; rintro v w3 ⟨rfl, hS'⟩; replace hS := hS.call0 hS') | (refine fc_m (hs _ (hx.below hS.nil)) ?_; rintro v w3 ⟨rfl, hS'⟩; replace hS := hS.call0 hS') | refine .mk ⟨by omega, by omega⟩ ?_ | refine br_t (by assumption) ?_ | refine br_f (by assumption) ?_ | (refine br_i (fun _ => ?_) (fun _ => ?_)) | (refine drawf TB_ok rfl (by kernel_rfl) (by kernel_rfl) hS (List.Sublist.refl _) (List.Sublist.refl _) ?_; intro w1 hS) | refine br_t (by assumption) ?_ | refine br_f (by assumption) ?_)
    all_goals first
      | exact hS.nil
      | rfl
      | (refine congrArg Value.bool ?_; simp only [*, Bool.not_true, Bool.not_false, Bool.and_true, Bool.true_and, Bool.false_and, Bool.and_false, Bool.or_true, Bool.true_or, Bool.or_false, Bool.false_or])
  · have hm : mayR x = (namedB x.p && (decide (1 ≤ x.vi) && (decide (x.vt ≤ 1073741824) && (decide (1 ≤ x.vc) && (decide (x.vc ≤ 4) && (!x.v.d && okVB x.v.d x.v.n x.v.ks)))))) := by
      unfold mayR
      rw [if_neg (by omega), if_neg (by omega), if_neg (by omega), if_neg (by omega), if_pos hk]
      unfold verB inB okV
      simp only [Bool.and_assoc]
      rfl
    have hn : needR x = { zeroRx x.k with p := x.p, vi := x.vi, vt := x.vt, vc := x.vc, v := x.v } := by
      unfold needR
      rw [if_neg (by omega), if_neg (by omega), if_neg (by omega), if_neg (by omega), if_pos hk]
    have hh : needH x h = ⟨none, 0, h.B, h.e⟩ := by
      unfold needH
      rw [if_neg (by omega), if_pos hk]
    rw [hm]
    rw [hn, hh] at hs
    rw [hn]
    clear hm hn hh
    have g1 : (x.k == 1) = false := by rw [hk]; rfl
    have g2 : (x.k == 2) = false := by rw [hk]; rfl
    have g3 : (x.k == 3) = false := by rw [hk]; rfl
    have g4 : (x.k == 4) = false := by rw [hk]; rfl
    have g5 : (x.k == 5) = true := by rw [hk]; rfl
    have g6 : (x.k == 6) = false := by rw [hk]; rfl
    have g7 : (x.k == 7) = false := by rw [hk]; rfl
    have g8 : (x.k == 8) = false := by rw [hk]; rfl
    generalize sameR x ({ zeroRx x.k with p := x.p, vi := x.vi, vt := x.vt, vc := x.vc, v := x.v }) = q at *
    refine fc_i TB_ok Tryz.func18 rfl (by kernel_rfl) ?_
    have hS := Sf.refl w
    repeat' ((conv => whnf); first | refine And.intro ?_ ?_ | (apply q_i; focus (intro w1 hS; (conv => whnf); first | exact ⟨rfl, rfl⟩ | ((refine ld_f hS 0 rfl rfl ?_); (conv => whnf); exact ⟨rfl, rfl⟩) | ((refine ld_f hS 1 rfl rfl ?_); (conv => whnf); exact ⟨rfl, rfl⟩) | ((refine ld_f hS 2 rfl rfl ?_); (conv => whnf); exact ⟨rfl, rfl⟩) | ((refine ldA_f hS 0 rfl rfl ?_); (conv => whnf); exact ⟨rfl, rfl⟩) | ((refine ldA_f hS 1 rfl rfl ?_); (conv => whnf); exact ⟨rfl, rfl⟩) | ((refine ldA_f hS 2 rfl rfl ?_); (conv => whnf); exact ⟨rfl, rfl⟩) | ((refine ldN_f hS 0 rfl (lb9 rfl) ?_); (conv => whnf); exact ⟨rfl, rfl⟩) | ((refine ldN_f hS 1 rfl (lb9 rfl) ?_); (conv => whnf); exact ⟨rfl, rfl⟩) | ((refine ldN_f hS 2 rfl (lb9 rfl) ?_); (conv => whnf); exact ⟨rfl, rfl⟩) | ((refine fc_m (named_c x.p (by omega) _) ?_; rintro v w3 ⟨rfl, hS'⟩; replace hS := hS.call0 hS'); (conv => whnf); exact ⟨rfl, rfl⟩) | ((refine fc_m (hreg _ (hx.l.below hS.nil)) ?_; rintro v w3 ⟨rfl, hS'⟩; replace hS := hS.call0 hS'); (conv => whnf); exact ⟨rfl, rfl⟩) | ((refine fc_m (hva _ (hx.v.below hS.nil)) ?_; rintro v w3 ⟨rfl, hS'⟩; replace hS := hS.call0 hS'); (conv => whnf); exact ⟨rfl, rfl⟩) | ((refine fc_m (rmay_c x.g _) ?_; rintro v w3 ⟨rfl, hS'⟩; replace hS := hS.call0 hS'); (conv => whnf); exact ⟨rfl, rfl⟩) | ((refine fc_m (hs _ (hx.below hS.nil)) ?_; rintro v w3 ⟨rfl, hS'⟩; replace hS := hS.call0 hS'); (conv => whnf); exact ⟨rfl, rfl⟩) | ((refine .mk ⟨by omega, by omega⟩ ?_); (conv => whnf); exact ⟨rfl, rfl⟩) | ((refine br_t (by assumption) ?_); (conv => whnf); exact ⟨rfl, rfl⟩) | ((refine br_f (by assumption) ?_); (conv => whnf); exact ⟨rfl, rfl⟩) | ((refine br_i (fun _ => ?_) (fun _ => ?_)); (conv => whnf); exact ⟨rfl, rfl⟩))) | (refine nw_f hS ?_; intro b w1 hS) | refine as_i hS ?_ | refine as_i (hS.subs (List.nil_sublist _) sb9) ?_ | refine as_i (hS.subs (List.Sublist.refl _) sb9) ?_ | refine bar_f hS ?_ | refine ld_f hS 0 rfl rfl ?_ | refine ld_f hS 1 rfl rfl ?_ | refine ld_f hS 2 rfl rfl ?_ | refine ldA_f hS 0 rfl rfl ?_ | refine ldA_f hS 1 rfl rfl ?_ | refine ldA_f hS 2 rfl rfl ?_ | (refine stN_f hS 0 rfl (lb9 rfl) rfl rfl ?_; (conv => whnf); intro w1 hS) | (refine stN_f hS 1 rfl (lb9 rfl) rfl rfl ?_; (conv => whnf); intro w1 hS) | (refine stN_f hS 2 rfl (lb9 rfl) rfl rfl ?_; (conv => whnf); intro w1 hS) | (refine stM_f hS 0 rfl (lb9 rfl) rfl ?_; (conv => whnf); intro w1 hS) | (refine stM_f hS 1 rfl (lb9 rfl) rfl ?_; (conv => whnf); intro w1 hS) | (refine stM_f hS 2 rfl (lb9 rfl) rfl ?_; (conv => whnf); intro w1 hS) | refine ldN_f hS 0 rfl (lb9 rfl) ?_ | refine ldN_f hS 1 rfl (lb9 rfl) ?_ | refine ldN_f hS 2 rfl (lb9 rfl) ?_ | (refine fc_m (named_c x.p (by omega) _) ?_; rintro v w3 ⟨rfl, hS'⟩; replace hS := hS.call0 hS') | (refine fc_m (hreg _ (hx.l.below hS.nil)) ?_; rintro v w3 ⟨rfl, hS'⟩; replace hS := hS.call0 hS') | (refine fc_m (hva _ (hx.v.below hS.nil)) ?_; rintro v w3 ⟨rfl, hS'⟩; replace hS := hS.call0 hS') | (refine fc_m (rmay_c x.g _) ?_; rintro v w3 ⟨rfl, hS'⟩; replace hS := hS.call0 hS') | (refine fc_m (hs _ (hx.below hS.nil)) ?_; rintro v w3 ⟨rfl, hS'⟩; replace hS := hS.call0 hS') | refine .mk ⟨by omega, by omega⟩ ?_ | refine br_t (by assumption) ?_ | refine br_f (by assumption) ?_ | (refine br_i (fun _ => ?_) (fun _ => ?_)) | (refine drawf TB_ok rfl (by kernel_rfl) (by kernel_rfl) hS (List.Sublist.refl _) (List.Sublist.refl _) ?_; intro w1 hS) | refine br_t (by assumption) ?_ | refine br_f (by assumption) ?_)
    all_goals first
      | exact hS.nil
      | rfl
      | (refine congrArg Value.bool ?_; simp only [*, Bool.not_true, Bool.not_false, Bool.and_true, Bool.true_and, Bool.false_and, Bool.and_false, Bool.or_true, Bool.true_or, Bool.or_false, Bool.false_or])
  · have hm : mayR x = decide (1 ≤ x.vi) := by
      unfold mayR
      rw [if_neg (by omega), if_neg (by omega), if_neg (by omega), if_neg (by omega), if_neg (by omega), if_pos hk]
      exact rfl
    have hn : needR x = { zeroRx x.k with vi := x.vi } := by
      unfold needR
      rw [if_neg (by omega), if_neg (by omega), if_neg (by omega), if_neg (by omega), if_neg (by omega), if_pos hk]
    have hh : needH x h = noHd := by
      unfold needH
      rw [if_neg (by omega), if_neg (by omega)]
    rw [hm]
    rw [hn, hh] at hs
    rw [hn]
    clear hm hn hh
    have g1 : (x.k == 1) = false := by rw [hk]; rfl
    have g2 : (x.k == 2) = false := by rw [hk]; rfl
    have g3 : (x.k == 3) = false := by rw [hk]; rfl
    have g4 : (x.k == 4) = false := by rw [hk]; rfl
    have g5 : (x.k == 5) = false := by rw [hk]; rfl
    have g6 : (x.k == 6) = true := by rw [hk]; rfl
    have g7 : (x.k == 7) = false := by rw [hk]; rfl
    have g8 : (x.k == 8) = false := by rw [hk]; rfl
    generalize sameR x ({ zeroRx x.k with vi := x.vi }) = q at *
    refine fc_i TB_ok Tryz.func18 rfl (by kernel_rfl) ?_
    have hS := Sf.refl w
    repeat' ((conv => whnf); first | refine And.intro ?_ ?_ | (apply q_i; focus (intro w1 hS; (conv => whnf); first | exact ⟨rfl, rfl⟩ | ((refine ld_f hS 0 rfl rfl ?_); (conv => whnf); exact ⟨rfl, rfl⟩) | ((refine ld_f hS 1 rfl rfl ?_); (conv => whnf); exact ⟨rfl, rfl⟩) | ((refine ld_f hS 2 rfl rfl ?_); (conv => whnf); exact ⟨rfl, rfl⟩) | ((refine ldA_f hS 0 rfl rfl ?_); (conv => whnf); exact ⟨rfl, rfl⟩) | ((refine ldA_f hS 1 rfl rfl ?_); (conv => whnf); exact ⟨rfl, rfl⟩) | ((refine ldA_f hS 2 rfl rfl ?_); (conv => whnf); exact ⟨rfl, rfl⟩) | ((refine ldN_f hS 0 rfl (lb9 rfl) ?_); (conv => whnf); exact ⟨rfl, rfl⟩) | ((refine ldN_f hS 1 rfl (lb9 rfl) ?_); (conv => whnf); exact ⟨rfl, rfl⟩) | ((refine ldN_f hS 2 rfl (lb9 rfl) ?_); (conv => whnf); exact ⟨rfl, rfl⟩) | ((refine fc_m (named_c x.p (by omega) _) ?_; rintro v w3 ⟨rfl, hS'⟩; replace hS := hS.call0 hS'); (conv => whnf); exact ⟨rfl, rfl⟩) | ((refine fc_m (hreg _ (hx.l.below hS.nil)) ?_; rintro v w3 ⟨rfl, hS'⟩; replace hS := hS.call0 hS'); (conv => whnf); exact ⟨rfl, rfl⟩) | ((refine fc_m (hva _ (hx.v.below hS.nil)) ?_; rintro v w3 ⟨rfl, hS'⟩; replace hS := hS.call0 hS'); (conv => whnf); exact ⟨rfl, rfl⟩) | ((refine fc_m (rmay_c x.g _) ?_; rintro v w3 ⟨rfl, hS'⟩; replace hS := hS.call0 hS'); (conv => whnf); exact ⟨rfl, rfl⟩) | ((refine fc_m (hs _ (hx.below hS.nil)) ?_; rintro v w3 ⟨rfl, hS'⟩; replace hS := hS.call0 hS'); (conv => whnf); exact ⟨rfl, rfl⟩) | ((refine .mk ⟨by omega, by omega⟩ ?_); (conv => whnf); exact ⟨rfl, rfl⟩) | ((refine br_t (by assumption) ?_); (conv => whnf); exact ⟨rfl, rfl⟩) | ((refine br_f (by assumption) ?_); (conv => whnf); exact ⟨rfl, rfl⟩) | ((refine br_i (fun _ => ?_) (fun _ => ?_)); (conv => whnf); exact ⟨rfl, rfl⟩))) | (refine nw_f hS ?_; intro b w1 hS) | refine as_i hS ?_ | refine as_i (hS.subs (List.nil_sublist _) sb9) ?_ | refine as_i (hS.subs (List.Sublist.refl _) sb9) ?_ | refine bar_f hS ?_ | refine ld_f hS 0 rfl rfl ?_ | refine ld_f hS 1 rfl rfl ?_ | refine ld_f hS 2 rfl rfl ?_ | refine ldA_f hS 0 rfl rfl ?_ | refine ldA_f hS 1 rfl rfl ?_ | refine ldA_f hS 2 rfl rfl ?_ | (refine stN_f hS 0 rfl (lb9 rfl) rfl rfl ?_; (conv => whnf); intro w1 hS) | (refine stN_f hS 1 rfl (lb9 rfl) rfl rfl ?_; (conv => whnf); intro w1 hS) | (refine stN_f hS 2 rfl (lb9 rfl) rfl rfl ?_; (conv => whnf); intro w1 hS) | (refine stM_f hS 0 rfl (lb9 rfl) rfl ?_; (conv => whnf); intro w1 hS) | (refine stM_f hS 1 rfl (lb9 rfl) rfl ?_; (conv => whnf); intro w1 hS) | (refine stM_f hS 2 rfl (lb9 rfl) rfl ?_; (conv => whnf); intro w1 hS) | refine ldN_f hS 0 rfl (lb9 rfl) ?_ | refine ldN_f hS 1 rfl (lb9 rfl) ?_ | refine ldN_f hS 2 rfl (lb9 rfl) ?_ | (refine fc_m (named_c x.p (by omega) _) ?_; rintro v w3 ⟨rfl, hS'⟩; replace hS := hS.call0 hS') | (refine fc_m (hreg _ (hx.l.below hS.nil)) ?_; rintro v w3 ⟨rfl, hS'⟩; replace hS := hS.call0 hS') | (refine fc_m (hva _ (hx.v.below hS.nil)) ?_; rintro v w3 ⟨rfl, hS'⟩; replace hS := hS.call0 hS') | (refine fc_m (rmay_c x.g _) ?_; rintro v w3 ⟨rfl, hS'⟩; replace hS := hS.call0 hS') | (refine fc_m (hs _ (hx.below hS.nil)) ?_; rintro v w3 ⟨rfl, hS'⟩; replace hS := hS.call0 hS') | refine .mk ⟨by omega, by omega⟩ ?_ | refine br_t (by assumption) ?_ | refine br_f (by assumption) ?_ | (refine br_i (fun _ => ?_) (fun _ => ?_)) | (refine drawf TB_ok rfl (by kernel_rfl) (by kernel_rfl) hS (List.Sublist.refl _) (List.Sublist.refl _) ?_; intro w1 hS) | refine br_t (by assumption) ?_ | refine br_f (by assumption) ?_)
    all_goals first
      | exact hS.nil
      | rfl
      | (refine congrArg Value.bool ?_; simp only [*, Bool.not_true, Bool.not_false, Bool.and_true, Bool.true_and, Bool.false_and, Bool.and_false, Bool.or_true, Bool.true_or, Bool.or_false, Bool.false_or])
  · have hm : mayR x = (decide (1 ≤ x.ci) && (((x.cb == 0) && ((x.cr == 0) && (x.cs == 0))) || (decide (0 ≤ x.cb) && (decide (x.cb ≤ 2047) && (decide (1 ≤ x.cr) && (decide (x.cr ≤ 65535) && (decide (1 ≤ x.cs) && decide (x.cs ≤ 64)))))))) := by
      unfold mayR
      rw [if_neg (by omega), if_neg (by omega), if_neg (by omega), if_neg (by omega), if_neg (by omega), if_neg (by omega), if_pos hk]
      unfold chunkB inB
      have hci := ho.ci
      rw [Bool.eq_iff_iff]
      split <;> simp only [Bool.and_eq_true, Bool.or_eq_true, decide_eq_true_eq, beq_iff_eq] <;> omega
    have hn : needR x = { zeroRx x.k with ci := x.ci, cb := x.cb, cr := x.cr, cs := x.cs } := by
      unfold needR
      rw [if_neg (by omega), if_neg (by omega), if_neg (by omega), if_neg (by omega), if_neg (by omega), if_neg (by omega), if_pos hk]
    have hh : needH x h = noHd := by
      unfold needH
      rw [if_neg (by omega), if_neg (by omega)]
    rw [hm]
    rw [hn, hh] at hs
    rw [hn]
    clear hm hn hh
    have g1 : (x.k == 1) = false := by rw [hk]; rfl
    have g2 : (x.k == 2) = false := by rw [hk]; rfl
    have g3 : (x.k == 3) = false := by rw [hk]; rfl
    have g4 : (x.k == 4) = false := by rw [hk]; rfl
    have g5 : (x.k == 5) = false := by rw [hk]; rfl
    have g6 : (x.k == 6) = false := by rw [hk]; rfl
    have g7 : (x.k == 7) = true := by rw [hk]; rfl
    have g8 : (x.k == 8) = false := by rw [hk]; rfl
    generalize sameR x ({ zeroRx x.k with ci := x.ci, cb := x.cb, cr := x.cr, cs := x.cs }) = q at *
    refine fc_i TB_ok Tryz.func18 rfl (by kernel_rfl) ?_
    have hS := Sf.refl w
    repeat' ((conv => whnf); first | refine And.intro ?_ ?_ | (apply q_i; focus (intro w1 hS; (conv => whnf); first | exact ⟨rfl, rfl⟩ | ((refine ld_f hS 0 rfl rfl ?_); (conv => whnf); exact ⟨rfl, rfl⟩) | ((refine ld_f hS 1 rfl rfl ?_); (conv => whnf); exact ⟨rfl, rfl⟩) | ((refine ld_f hS 2 rfl rfl ?_); (conv => whnf); exact ⟨rfl, rfl⟩) | ((refine ldA_f hS 0 rfl rfl ?_); (conv => whnf); exact ⟨rfl, rfl⟩) | ((refine ldA_f hS 1 rfl rfl ?_); (conv => whnf); exact ⟨rfl, rfl⟩) | ((refine ldA_f hS 2 rfl rfl ?_); (conv => whnf); exact ⟨rfl, rfl⟩) | ((refine ldN_f hS 0 rfl (lb9 rfl) ?_); (conv => whnf); exact ⟨rfl, rfl⟩) | ((refine ldN_f hS 1 rfl (lb9 rfl) ?_); (conv => whnf); exact ⟨rfl, rfl⟩) | ((refine ldN_f hS 2 rfl (lb9 rfl) ?_); (conv => whnf); exact ⟨rfl, rfl⟩) | ((refine fc_m (named_c x.p (by omega) _) ?_; rintro v w3 ⟨rfl, hS'⟩; replace hS := hS.call0 hS'); (conv => whnf); exact ⟨rfl, rfl⟩) | ((refine fc_m (hreg _ (hx.l.below hS.nil)) ?_; rintro v w3 ⟨rfl, hS'⟩; replace hS := hS.call0 hS'); (conv => whnf); exact ⟨rfl, rfl⟩) | ((refine fc_m (hva _ (hx.v.below hS.nil)) ?_; rintro v w3 ⟨rfl, hS'⟩; replace hS := hS.call0 hS'); (conv => whnf); exact ⟨rfl, rfl⟩) | ((refine fc_m (rmay_c x.g _) ?_; rintro v w3 ⟨rfl, hS'⟩; replace hS := hS.call0 hS'); (conv => whnf); exact ⟨rfl, rfl⟩) | ((refine fc_m (hs _ (hx.below hS.nil)) ?_; rintro v w3 ⟨rfl, hS'⟩; replace hS := hS.call0 hS'); (conv => whnf); exact ⟨rfl, rfl⟩) | ((refine .mk ⟨by omega, by omega⟩ ?_); (conv => whnf); exact ⟨rfl, rfl⟩) | ((refine br_t (by assumption) ?_); (conv => whnf); exact ⟨rfl, rfl⟩) | ((refine br_f (by assumption) ?_); (conv => whnf); exact ⟨rfl, rfl⟩) | ((refine br_i (fun _ => ?_) (fun _ => ?_)); (conv => whnf); exact ⟨rfl, rfl⟩))) | (refine nw_f hS ?_; intro b w1 hS) | refine as_i hS ?_ | refine as_i (hS.subs (List.nil_sublist _) sb9) ?_ | refine as_i (hS.subs (List.Sublist.refl _) sb9) ?_ | refine bar_f hS ?_ | refine ld_f hS 0 rfl rfl ?_ | refine ld_f hS 1 rfl rfl ?_ | refine ld_f hS 2 rfl rfl ?_ | refine ldA_f hS 0 rfl rfl ?_ | refine ldA_f hS 1 rfl rfl ?_ | refine ldA_f hS 2 rfl rfl ?_ | (refine stN_f hS 0 rfl (lb9 rfl) rfl rfl ?_; (conv => whnf); intro w1 hS) | (refine stN_f hS 1 rfl (lb9 rfl) rfl rfl ?_; (conv => whnf); intro w1 hS) | (refine stN_f hS 2 rfl (lb9 rfl) rfl rfl ?_; (conv => whnf); intro w1 hS) | (refine stM_f hS 0 rfl (lb9 rfl) rfl ?_; (conv => whnf); intro w1 hS) | (refine stM_f hS 1 rfl (lb9 rfl) rfl ?_; (conv => whnf); intro w1 hS) | (refine stM_f hS 2 rfl (lb9 rfl) rfl ?_; (conv => whnf); intro w1 hS) | refine ldN_f hS 0 rfl (lb9 rfl) ?_ | refine ldN_f hS 1 rfl (lb9 rfl) ?_ | refine ldN_f hS 2 rfl (lb9 rfl) ?_ | (refine fc_m (named_c x.p (by omega) _) ?_; rintro v w3 ⟨rfl, hS'⟩; replace hS := hS.call0 hS') | (refine fc_m (hreg _ (hx.l.below hS.nil)) ?_; rintro v w3 ⟨rfl, hS'⟩; replace hS := hS.call0 hS') | (refine fc_m (hva _ (hx.v.below hS.nil)) ?_; rintro v w3 ⟨rfl, hS'⟩; replace hS := hS.call0 hS') | (refine fc_m (rmay_c x.g _) ?_; rintro v w3 ⟨rfl, hS'⟩; replace hS := hS.call0 hS') | (refine fc_m (hs _ (hx.below hS.nil)) ?_; rintro v w3 ⟨rfl, hS'⟩; replace hS := hS.call0 hS') | refine .mk ⟨by omega, by omega⟩ ?_ | refine br_t (by assumption) ?_ | refine br_f (by assumption) ?_ | (refine br_i (fun _ => ?_) (fun _ => ?_)) | (refine drawf TB_ok rfl (by kernel_rfl) (by kernel_rfl) hS (List.Sublist.refl _) (List.Sublist.refl _) ?_; intro w1 hS) | refine br_t (by assumption) ?_ | refine br_f (by assumption) ?_)
    all_goals first
      | exact hS.nil
      | rfl
      | (refine congrArg Value.bool ?_; simp only [*, Bool.not_true, Bool.not_false, Bool.and_true, Bool.true_and, Bool.false_and, Bool.and_false, Bool.or_true, Bool.true_or, Bool.or_false, Bool.false_or])
  · have hm : mayR x = (decide (x.r ≤ 7) && (namedB x.p && mayVB x.g)) := by
      unfold mayR
      rw [if_neg (by omega), if_neg (by omega), if_neg (by omega), if_neg (by omega), if_neg (by omega), if_neg (by omega), if_neg (by omega), if_pos hk]
      rw [decide_eq_decide.2 (show x.r < 8 ↔ x.r ≤ 7 by omega)]
    have hn : needR x = { zeroRx x.k with r := x.r, p := x.p, g := x.g } := by
      unfold needR
      rw [if_neg (by omega), if_neg (by omega), if_neg (by omega), if_neg (by omega), if_neg (by omega), if_neg (by omega), if_neg (by omega), if_pos hk]
    have hh : needH x h = noHd := by
      unfold needH
      rw [if_neg (by omega), if_neg (by omega)]
    rw [hm]
    rw [hn, hh] at hs
    rw [hn]
    clear hm hn hh
    have g1 : (x.k == 1) = false := by rw [hk]; rfl
    have g2 : (x.k == 2) = false := by rw [hk]; rfl
    have g3 : (x.k == 3) = false := by rw [hk]; rfl
    have g4 : (x.k == 4) = false := by rw [hk]; rfl
    have g5 : (x.k == 5) = false := by rw [hk]; rfl
    have g6 : (x.k == 6) = false := by rw [hk]; rfl
    have g7 : (x.k == 7) = false := by rw [hk]; rfl
    have g8 : (x.k == 8) = true := by rw [hk]; rfl
    generalize sameR x ({ zeroRx x.k with r := x.r, p := x.p, g := x.g }) = q at *
    refine fc_i TB_ok Tryz.func18 rfl (by kernel_rfl) ?_
    have hS := Sf.refl w
    repeat' ((conv => whnf); first | refine And.intro ?_ ?_ | (apply q_i; focus (intro w1 hS; (conv => whnf); first | exact ⟨rfl, rfl⟩ | ((refine ld_f hS 0 rfl rfl ?_); (conv => whnf); exact ⟨rfl, rfl⟩) | ((refine ld_f hS 1 rfl rfl ?_); (conv => whnf); exact ⟨rfl, rfl⟩) | ((refine ld_f hS 2 rfl rfl ?_); (conv => whnf); exact ⟨rfl, rfl⟩) | ((refine ldA_f hS 0 rfl rfl ?_); (conv => whnf); exact ⟨rfl, rfl⟩) | ((refine ldA_f hS 1 rfl rfl ?_); (conv => whnf); exact ⟨rfl, rfl⟩) | ((refine ldA_f hS 2 rfl rfl ?_); (conv => whnf); exact ⟨rfl, rfl⟩) | ((refine ldN_f hS 0 rfl (lb9 rfl) ?_); (conv => whnf); exact ⟨rfl, rfl⟩) | ((refine ldN_f hS 1 rfl (lb9 rfl) ?_); (conv => whnf); exact ⟨rfl, rfl⟩) | ((refine ldN_f hS 2 rfl (lb9 rfl) ?_); (conv => whnf); exact ⟨rfl, rfl⟩) | ((refine fc_m (named_c x.p (by omega) _) ?_; rintro v w3 ⟨rfl, hS'⟩; replace hS := hS.call0 hS'); (conv => whnf); exact ⟨rfl, rfl⟩) | ((refine fc_m (hreg _ (hx.l.below hS.nil)) ?_; rintro v w3 ⟨rfl, hS'⟩; replace hS := hS.call0 hS'); (conv => whnf); exact ⟨rfl, rfl⟩) | ((refine fc_m (hva _ (hx.v.below hS.nil)) ?_; rintro v w3 ⟨rfl, hS'⟩; replace hS := hS.call0 hS'); (conv => whnf); exact ⟨rfl, rfl⟩) | ((refine fc_m (rmay_c x.g _) ?_; rintro v w3 ⟨rfl, hS'⟩; replace hS := hS.call0 hS'); (conv => whnf); exact ⟨rfl, rfl⟩) | ((refine fc_m (hs _ (hx.below hS.nil)) ?_; rintro v w3 ⟨rfl, hS'⟩; replace hS := hS.call0 hS'); (conv => whnf); exact ⟨rfl, rfl⟩) | ((refine .mk ⟨by omega, by omega⟩ ?_); (conv => whnf); exact ⟨rfl, rfl⟩) | ((refine br_t (by assumption) ?_); (conv => whnf); exact ⟨rfl, rfl⟩) | ((refine br_f (by assumption) ?_); (conv => whnf); exact ⟨rfl, rfl⟩) | ((refine br_i (fun _ => ?_) (fun _ => ?_)); (conv => whnf); exact ⟨rfl, rfl⟩))) | (refine nw_f hS ?_; intro b w1 hS) | refine as_i hS ?_ | refine as_i (hS.subs (List.nil_sublist _) sb9) ?_ | refine as_i (hS.subs (List.Sublist.refl _) sb9) ?_ | refine bar_f hS ?_ | refine ld_f hS 0 rfl rfl ?_ | refine ld_f hS 1 rfl rfl ?_ | refine ld_f hS 2 rfl rfl ?_ | refine ldA_f hS 0 rfl rfl ?_ | refine ldA_f hS 1 rfl rfl ?_ | refine ldA_f hS 2 rfl rfl ?_ | (refine stN_f hS 0 rfl (lb9 rfl) rfl rfl ?_; (conv => whnf); intro w1 hS) | (refine stN_f hS 1 rfl (lb9 rfl) rfl rfl ?_; (conv => whnf); intro w1 hS) | (refine stN_f hS 2 rfl (lb9 rfl) rfl rfl ?_; (conv => whnf); intro w1 hS) | (refine stM_f hS 0 rfl (lb9 rfl) rfl ?_; (conv => whnf); intro w1 hS) | (refine stM_f hS 1 rfl (lb9 rfl) rfl ?_; (conv => whnf); intro w1 hS) | (refine stM_f hS 2 rfl (lb9 rfl) rfl ?_; (conv => whnf); intro w1 hS) | refine ldN_f hS 0 rfl (lb9 rfl) ?_ | refine ldN_f hS 1 rfl (lb9 rfl) ?_ | refine ldN_f hS 2 rfl (lb9 rfl) ?_ | (refine fc_m (named_c x.p (by omega) _) ?_; rintro v w3 ⟨rfl, hS'⟩; replace hS := hS.call0 hS') | (refine fc_m (hreg _ (hx.l.below hS.nil)) ?_; rintro v w3 ⟨rfl, hS'⟩; replace hS := hS.call0 hS') | (refine fc_m (hva _ (hx.v.below hS.nil)) ?_; rintro v w3 ⟨rfl, hS'⟩; replace hS := hS.call0 hS') | (refine fc_m (rmay_c x.g _) ?_; rintro v w3 ⟨rfl, hS'⟩; replace hS := hS.call0 hS') | (refine fc_m (hs _ (hx.below hS.nil)) ?_; rintro v w3 ⟨rfl, hS'⟩; replace hS := hS.call0 hS') | refine .mk ⟨by omega, by omega⟩ ?_ | refine br_t (by assumption) ?_ | refine br_f (by assumption) ?_ | (refine br_i (fun _ => ?_) (fun _ => ?_)) | (refine drawf TB_ok rfl (by kernel_rfl) (by kernel_rfl) hS (List.Sublist.refl _) (List.Sublist.refl _) ?_; intro w1 hS) | refine br_t (by assumption) ?_ | refine br_f (by assumption) ?_)
    all_goals first
      | exact hS.nil
      | rfl
      | (refine congrArg Value.bool ?_; simp only [*, Bool.not_true, Bool.not_false, Bool.and_true, Bool.true_and, Bool.false_and, Bool.and_false, Bool.or_true, Bool.true_or, Bool.or_false, Bool.false_or])
  · have hm : mayR x = false := by
      unfold mayR
      rw [if_neg (by omega), if_neg (by omega), if_neg (by omega), if_neg (by omega), if_neg (by omega), if_neg (by omega), if_neg (by omega), if_neg (by omega)]
    have hn : needR x = zeroRx x.k := by
      unfold needR
      rw [if_neg (by omega), if_neg (by omega), if_neg (by omega), if_neg (by omega), if_neg (by omega), if_neg (by omega), if_neg (by omega), if_neg (by omega)]
    have hh : needH x h = noHd := by
      unfold needH
      rw [if_neg (by omega), if_neg (by omega)]
    rw [hm]
    rw [hn, hh] at hs
    rw [hn]
    clear hm hn hh
    have g1 : (x.k == 1) = false := by simp; omega
    have g2 : (x.k == 2) = false := by simp; omega
    have g3 : (x.k == 3) = false := by simp; omega
    have g4 : (x.k == 4) = false := by simp; omega
    have g5 : (x.k == 5) = false := by simp; omega
    have g6 : (x.k == 6) = false := by simp; omega
    have g7 : (x.k == 7) = false := by simp; omega
    have g8 : (x.k == 8) = false := by simp; omega
    generalize sameR x (zeroRx x.k) = q at *
    refine fc_i TB_ok Tryz.func18 rfl (by kernel_rfl) ?_
    have hS := Sf.refl w
    repeat' ((conv => whnf); first | refine And.intro ?_ ?_ | (apply q_i; focus (intro w1 hS; (conv => whnf); first | exact ⟨rfl, rfl⟩ | ((refine ld_f hS 0 rfl rfl ?_); (conv => whnf); exact ⟨rfl, rfl⟩) | ((refine ld_f hS 1 rfl rfl ?_); (conv => whnf); exact ⟨rfl, rfl⟩) | ((refine ld_f hS 2 rfl rfl ?_); (conv => whnf); exact ⟨rfl, rfl⟩) | ((refine ldA_f hS 0 rfl rfl ?_); (conv => whnf); exact ⟨rfl, rfl⟩) | ((refine ldA_f hS 1 rfl rfl ?_); (conv => whnf); exact ⟨rfl, rfl⟩) | ((refine ldA_f hS 2 rfl rfl ?_); (conv => whnf); exact ⟨rfl, rfl⟩) | ((refine ldN_f hS 0 rfl (lb9 rfl) ?_); (conv => whnf); exact ⟨rfl, rfl⟩) | ((refine ldN_f hS 1 rfl (lb9 rfl) ?_); (conv => whnf); exact ⟨rfl, rfl⟩) | ((refine ldN_f hS 2 rfl (lb9 rfl) ?_); (conv => whnf); exact ⟨rfl, rfl⟩) | ((refine fc_m (named_c x.p (by omega) _) ?_; rintro v w3 ⟨rfl, hS'⟩; replace hS := hS.call0 hS'); (conv => whnf); exact ⟨rfl, rfl⟩) | ((refine fc_m (hreg _ (hx.l.below hS.nil)) ?_; rintro v w3 ⟨rfl, hS'⟩; replace hS := hS.call0 hS'); (conv => whnf); exact ⟨rfl, rfl⟩) | ((refine fc_m (hva _ (hx.v.below hS.nil)) ?_; rintro v w3 ⟨rfl, hS'⟩; replace hS := hS.call0 hS'); (conv => whnf); exact ⟨rfl, rfl⟩) | ((refine fc_m (rmay_c x.g _) ?_; rintro v w3 ⟨rfl, hS'⟩; replace hS := hS.call0 hS'); (conv => whnf); exact ⟨rfl, rfl⟩) | ((refine fc_m (hs _ (hx.below hS.nil)) ?_; rintro v w3 ⟨rfl, hS'⟩; replace hS := hS.call0 hS'); (conv => whnf); exact ⟨rfl, rfl⟩) | ((refine .mk ⟨by omega, by omega⟩ ?_); (conv => whnf); exact ⟨rfl, rfl⟩) | ((refine br_t (by assumption) ?_); (conv => whnf); exact ⟨rfl, rfl⟩) | ((refine br_f (by assumption) ?_); (conv => whnf); exact ⟨rfl, rfl⟩) | ((refine br_i (fun _ => ?_) (fun _ => ?_)); (conv => whnf); exact ⟨rfl, rfl⟩))) | (refine nw_f hS ?_; intro b w1 hS) | refine as_i hS ?_ | refine as_i (hS.subs (List.nil_sublist _) sb9) ?_ | refine as_i (hS.subs (List.Sublist.refl _) sb9) ?_ | refine bar_f hS ?_ | refine ld_f hS 0 rfl rfl ?_ | refine ld_f hS 1 rfl rfl ?_ | refine ld_f hS 2 rfl rfl ?_ | refine ldA_f hS 0 rfl rfl ?_ | refine ldA_f hS 1 rfl rfl ?_ | refine ldA_f hS 2 rfl rfl ?_ | (refine stN_f hS 0 rfl (lb9 rfl) rfl rfl ?_; (conv => whnf); intro w1 hS) | (refine stN_f hS 1 rfl (lb9 rfl) rfl rfl ?_; (conv => whnf); intro w1 hS) | (refine stN_f hS 2 rfl (lb9 rfl) rfl rfl ?_; (conv => whnf); intro w1 hS) | (refine stM_f hS 0 rfl (lb9 rfl) rfl ?_; (conv => whnf); intro w1 hS) | (refine stM_f hS 1 rfl (lb9 rfl) rfl ?_; (conv => whnf); intro w1 hS) | (refine stM_f hS 2 rfl (lb9 rfl) rfl ?_; (conv => whnf); intro w1 hS) | refine ldN_f hS 0 rfl (lb9 rfl) ?_ | refine ldN_f hS 1 rfl (lb9 rfl) ?_ | refine ldN_f hS 2 rfl (lb9 rfl) ?_ | (refine fc_m (named_c x.p (by omega) _) ?_; rintro v w3 ⟨rfl, hS'⟩; replace hS := hS.call0 hS') | (refine fc_m (hreg _ (hx.l.below hS.nil)) ?_; rintro v w3 ⟨rfl, hS'⟩; replace hS := hS.call0 hS') | (refine fc_m (hva _ (hx.v.below hS.nil)) ?_; rintro v w3 ⟨rfl, hS'⟩; replace hS := hS.call0 hS') | (refine fc_m (rmay_c x.g _) ?_; rintro v w3 ⟨rfl, hS'⟩; replace hS := hS.call0 hS') | (refine fc_m (hs _ (hx.below hS.nil)) ?_; rintro v w3 ⟨rfl, hS'⟩; replace hS := hS.call0 hS') | refine .mk ⟨by omega, by omega⟩ ?_ | refine br_t (by assumption) ?_ | refine br_f (by assumption) ?_ | (refine br_i (fun _ => ?_) (fun _ => ?_)) | (refine drawf TB_ok rfl (by kernel_rfl) (by kernel_rfl) hS (List.Sublist.refl _) (List.Sublist.refl _) ?_; intro w1 hS) | refine br_t (by assumption) ?_ | refine br_f (by assumption) ?_)
    all_goals first
      | exact hS.nil
      | rfl
      | (refine congrArg Value.bool ?_; simp only [*, Bool.not_true, Bool.not_false, Bool.and_true, Bool.true_and, Bool.false_and, Bool.and_false, Bool.or_true, Bool.true_or, Bool.or_false, Bool.false_or])
end Go.RV



set_option maxRecDepth 20000
set_option linter.unusedVariables false
set_option linter.unusedSimpArgs false
namespace Go.RV
open Go Go.Proofs Go.RowKit

theorem rn18_c (x : Int) (h0 : 0 ≤ x) (h1 : x ≤ 4294967295) (W : Nat) (hW : W ≤ 4) (w : World) : Fc Tryz.prog 59 [.int .i64 x, .int .i64 W] w fun v w' => v = .string (strY (be x W)) ∧ St [] w w' [] := by
  refine fc_i TB_ok Tryz.func59 rfl (by kernel_rfl) ?_
  have hS := Sf.refl w
  have hf := fun w => rfixed_c x h0 h1 W hW w
  have hw : IntKind.u32.wrap x = x := wrap_u32 h0 (by omega)
  rw [← hw] at hf
  repeat ((conv => whnf); first | (apply q_i; focus (intro w1 hS; (conv => whnf); first | exact ⟨rfl, rfl⟩ | ((refine fc_m (hf _) ?_; rintro v w3 ⟨rfl, hS'⟩; replace hS := hS.call0 hS'); (conv => whnf); exact ⟨rfl, rfl⟩))) | (refine nw_f hS ?_; intro b w1 hS) | refine as_i hS ?_ | refine as_i (hS.subs (List.nil_sublist _) sb9) ?_ | refine as_i (hS.subs (List.Sublist.refl _) sb9) ?_ | refine bar_f hS ?_ | (refine fc_m (hf _) ?_; rintro v w3 ⟨rfl, hS'⟩; replace hS := hS.call0 hS') | (refine drawf TB_ok rfl (by kernel_rfl) (by kernel_rfl) hS (List.Sublist.refl _) (List.Sublist.refl _) ?_; intro w1 hS) | refine br_t (by assumption) ?_ | refine br_f (by assumption) ?_)
  refine ⟨?_, hS.nil⟩
  rw [hw]
theorem rnw_c (x : Int) (h : 0 ≤ x ∧ x ≤ 4294967295) (W : Nat) (hW : W ≤ 4) (w : World) : Fc Tryz.prog 59 [.int .i64 (IntKind.i64.wrap x), .int .i64 W] w fun v w' => v = .string (strY (be x W)) ∧ St [] w w' [] := by
  rw [wrap_i64 (by omega) (by omega)]
  exact rn18_c x h.1 h.2 W hW w
theorem rtext18_c (p : List UInt8) (hp : p.length ≤ 255) (w : World) : Fc Tryz.prog 60 [.string (strY p)] w fun v w' => v = .string (strY (pathT p)) ∧ St [] w w' [] := by
  have hpz := strY_size p
  have hn1 := fun w => rn18_c ((strY p).size : Int) (by omega) (by omega) 1 (by decide) w
  refine fc_i TB_ok Tryz.func60 rfl (by kernel_rfl) ?_
  have hS := Sf.refl w
  repeat ((conv => whnf); first | (apply q_i; focus (intro w1 hS; (conv => whnf); first | exact ⟨rfl, rfl⟩ | ((refine fc_m (hn1 _) ?_; rintro v w3 ⟨rfl, hS'⟩; replace hS := hS.call0 hS'); (conv => whnf); exact ⟨rfl, rfl⟩) | ((refine .mk (by rw [strY_size, be_len]; omega) ?_); (conv => whnf); exact ⟨rfl, rfl⟩))) | (refine nw_f hS ?_; intro b w1 hS) | refine as_i hS ?_ | refine as_i (hS.subs (List.nil_sublist _) sb9) ?_ | refine as_i (hS.subs (List.Sublist.refl _) sb9) ?_ | refine bar_f hS ?_ | (refine fc_m (hn1 _) ?_; rintro v w3 ⟨rfl, hS'⟩; replace hS := hS.call0 hS') | refine .mk (by rw [strY_size, be_len]; omega) ?_ | (refine drawf TB_ok rfl (by kernel_rfl) (by kernel_rfl) hS (List.Sublist.refl _) (List.Sublist.refl _) ?_; intro w1 hS) | refine br_t (by assumption) ?_ | refine br_f (by assumption) ?_)
  refine ⟨?_, hS.nil⟩
  unfold pathT
  rw [← hpz, ← strY_append]
theorem shl64' {i : Nat} (h : i < 8) : bShl .i64 1 (i : Int) = 2 ^ i := by
  rcases lt8 h with rfl | rfl | rfl | rfl | rfl | rfl | rfl | rfl <;> decide
set_option maxHeartbeats 4000000 in
theorem rvec18_c (g : Nat → Int) (hg : ∀ j, j < 8 → 0 ≤ g j ∧ g j ≤ 65535) (w : World) : Fc Tryz.prog 61 [vecV g] w fun v w' => v = .string (strY (ctxT g)) ∧ St [] w w' [] := by
  refine fc_i TB_ok Tryz.func61 rfl (by kernel_rfl) ?_
  have hS := Sf.refl w
  repeat ((conv => whnf); first | (apply q_i; focus (intro w1 hS; (conv => whnf); first | exact ⟨rfl, rfl⟩ | ((refine ld_f hS 0 rfl rfl ?_); (conv => whnf); exact ⟨rfl, rfl⟩) | ((refine ldA_f hS 0 rfl rfl ?_); (conv => whnf); exact ⟨rfl, rfl⟩))) | (refine nw_f hS ?_; intro b w1 hS) | refine as_i hS ?_ | refine as_i (hS.subs (List.nil_sublist _) sb9) ?_ | refine as_i (hS.subs (List.Sublist.refl _) sb9) ?_ | refine bar_f hS ?_ | refine ld_f hS 0 rfl rfl ?_ | refine ldA_f hS 0 rfl rfl ?_ | (refine stN_f hS 0 rfl (lb9 rfl) rfl rfl ?_; (conv => whnf); intro w1 hS) | (refine stM_f hS 0 rfl (lb9 rfl) rfl ?_; (conv => whnf); intro w1 hS) | (refine drawf TB_ok rfl (by kernel_rfl) (by kernel_rfl) hS (List.Sublist.refl _) (List.Sublist.refl _) ?_; intro w1 hS) | refine br_t (by assumption) ?_ | refine br_f (by assumption) ?_)
  replace hS : Sf [] w _ [] [(_, .cells (vecF g).toArray 37 (0, 0))] := hS
  refine loop_i TB_ok (fun i : Nat => [(5, .int .i64 i), (3, .int .i64 (bitsN g i)), (4, .string (strY (num2 g i)))]) (fun i w' => i ≤ 8 ∧ Sf [] w w' [] [(_, .cells (vecF g).toArray 37 (0, 0))]) (fun i => 8 - i) 0 rfl ⟨Nat.zero_le _, hS⟩ ?_
  rintro i us w2 ⟨hi, hS⟩
  (conv => whnf)
  refine br_i (fun hb => ?_) (fun hb => ?_)
  · have hlt : i < 8 := by have := of_decide_eq_true hb; omega
    have hgi := hg i hlt
    have hbl := bitsN_lt g i
    have hnl := num2_len g i
    have hpw := pow8 (show i ≤ 8 by omega)
    have hn2 := fun w => rnw_c (g i) (by omega) 2 (by decide) w
    repeat ((conv => whnf); first | (apply q_i; focus (intro w1 hS; (conv => whnf); first | exact ⟨rfl, rfl⟩ | ((refine .mk ⟨by omega, by omega⟩ ?_); (conv => whnf); exact ⟨rfl, rfl⟩) | ((refine ldv_f hS 0 rfl hlt (by show 0 + i * 1 = i; omega) ?_); (conv => whnf); exact ⟨rfl, rfl⟩) | ((refine stv_f hS 0 rfl hlt (by show 0 + i * 1 = i; omega) ?_; (conv => whnf); intro w1 hS); (conv => whnf); exact ⟨rfl, rfl⟩))) | (refine nw_f hS ?_; intro b w1 hS) | refine as_i hS ?_ | refine as_i (hS.subs (List.nil_sublist _) sb9) ?_ | refine as_i (hS.subs (List.Sublist.refl _) sb9) ?_ | refine bar_f hS ?_ | refine .mk ⟨by omega, by omega⟩ ?_ | refine ldv_f hS 0 rfl hlt (by show 0 + i * 1 = i; omega) ?_ | (refine stv_f hS 0 rfl hlt (by show 0 + i * 1 = i; omega) ?_; (conv => whnf); intro w1 hS) | (refine drawf TB_ok rfl (by kernel_rfl) (by kernel_rfl) hS (List.Sublist.refl _) (List.Sublist.refl _) ?_; intro w1 hS) | refine br_t (by assumption) ?_ | refine br_f (by assumption) ?_)
    (conv => whnf)
    refine br_i (fun h1 => ?_) (fun h1 => ?_)
    · have h1' : 0 < g i := of_decide_eq_true h1
      repeat ((conv => whnf); first | (apply q_i; focus (intro w1 hS; (conv => whnf); first | exact ⟨rfl, rfl⟩ | ((refine .mk ⟨by omega, by omega⟩ ?_); (conv => whnf); exact ⟨rfl, rfl⟩) | ((refine ldv_f hS 0 rfl hlt (by show 0 + i * 1 = i; omega) ?_); (conv => whnf); exact ⟨rfl, rfl⟩) | ((refine stv_f hS 0 rfl hlt (by show 0 + i * 1 = i; omega) ?_; (conv => whnf); intro w1 hS); (conv => whnf); exact ⟨rfl, rfl⟩) | ((refine .mk (by show (0 : Int) ≤ ((i : Nat) : Int); omega) ?_); (conv => whnf); exact ⟨rfl, rfl⟩) | ((refine fc_m (hn2 _) ?_; rintro v w3 ⟨rfl, hS'⟩; replace hS := hS.call0 hS'); (conv => whnf); exact ⟨rfl, rfl⟩) | ((refine .mk (by rw [strY_size, strY_size, be_len]; omega) ?_); (conv => whnf); exact ⟨rfl, rfl⟩))) | (refine nw_f hS ?_; intro b w1 hS) | refine as_i hS ?_ | refine as_i (hS.subs (List.nil_sublist _) sb9) ?_ | refine as_i (hS.subs (List.Sublist.refl _) sb9) ?_ | refine bar_f hS ?_ | refine .mk ⟨by omega, by omega⟩ ?_ | refine ldv_f hS 0 rfl hlt (by show 0 + i * 1 = i; omega) ?_ | (refine stv_f hS 0 rfl hlt (by show 0 + i * 1 = i; omega) ?_; (conv => whnf); intro w1 hS) | (refine .mk (by show (0 : Int) ≤ ((i : Nat) : Int); omega) ?_) | (refine fc_m (hn2 _) ?_; rintro v w3 ⟨rfl, hS'⟩; replace hS := hS.call0 hS') | refine .mk (by rw [strY_size, strY_size, be_len]; omega) ?_ | (refine drawf TB_ok rfl (by kernel_rfl) (by kernel_rfl) hS (List.Sublist.refl _) (List.Sublist.refl _) ?_; intro w1 hS) | refine br_t (by assumption) ?_ | refine br_f (by assumption) ?_)
      refine ⟨rfl, i + 1, ?_, ⟨by omega, hS⟩, by omega⟩
      have e1 : bitsN g (i + 1) = IntKind.i64.wrap (bitsN g i + bShl .i64 1 (i : Int)) := by rw [bitsN, if_pos h1', shl64' hlt, wrap_i64 (by omega) (by omega)]
      have e2 : strY (num2 g (i + 1)) = strY (num2 g i) ++ strY (be (g i) 2) := by rw [num2, if_pos h1', strY_append]
      rw [wi8 hlt, e1, e2]
      rfl
    · have h1' : ¬ 0 < g i := of_decide_eq_false h1
      repeat ((conv => whnf); first | (apply q_i; focus (intro w1 hS; (conv => whnf); first | exact ⟨rfl, rfl⟩)) | (refine nw_f hS ?_; intro b w1 hS) | refine as_i hS ?_ | refine as_i (hS.subs (List.nil_sublist _) sb9) ?_ | refine as_i (hS.subs (List.Sublist.refl _) sb9) ?_ | refine bar_f hS ?_ | (refine drawf TB_ok rfl (by kernel_rfl) (by kernel_rfl) hS (List.Sublist.refl _) (List.Sublist.refl _) ?_; intro w1 hS) | refine br_t (by assumption) ?_ | refine br_f (by assumption) ?_)
      refine ⟨rfl, i + 1, ?_, ⟨by omega, hS⟩, by omega⟩
      rw [wi8 hlt, show bitsN g (i + 1) = bitsN g i from by rw [bitsN, if_neg h1'], show num2 g (i + 1) = num2 g i from by rw [num2, if_neg h1']]
      rfl
  · have hge : i = 8 := by have := of_decide_eq_false hb; omega
    subst hge
    have hbl := bitsN_lt g 8
    have hnl := num2_len g 8
    have hn3 := fun w => rn18_c (bitsN g 8) hbl.1 (by omega) 1 (by decide) w
    have hr : strY (be (bitsN g 8) 1) ++ strY (num2 g 8) = strY (ctxT g) := by unfold ctxT; rw [strY_append]
    generalize bitsN g 8 = bits at *
    generalize num2 g 8 = nums at *
    repeat ((conv => whnf); first | (apply q_i; focus (intro w1 hS; (conv => whnf); first | exact ⟨rfl, rfl⟩ | ((refine ld_f hS 0 rfl rfl ?_); (conv => whnf); exact ⟨rfl, rfl⟩) | ((refine ldA_f hS 0 rfl rfl ?_); (conv => whnf); exact ⟨rfl, rfl⟩) | ((refine fc_m (hn3 _) ?_; rintro v w3 ⟨rfl, hS'⟩; replace hS := hS.call0 hS'); (conv => whnf); exact ⟨rfl, rfl⟩) | ((refine .mk (by rw [strY_size, strY_size, be_len]; omega) ?_); (conv => whnf); exact ⟨rfl, rfl⟩))) | (refine nw_f hS ?_; intro b w1 hS) | refine as_i hS ?_ | refine as_i (hS.subs (List.nil_sublist _) sb9) ?_ | refine as_i (hS.subs (List.Sublist.refl _) sb9) ?_ | refine bar_f hS ?_ | refine ld_f hS 0 rfl rfl ?_ | refine ldA_f hS 0 rfl rfl ?_ | (refine stN_f hS 0 rfl (lb9 rfl) rfl rfl ?_; (conv => whnf); intro w1 hS) | (refine stM_f hS 0 rfl (lb9 rfl) rfl ?_; (conv => whnf); intro w1 hS) | (refine fc_m (hn3 _) ?_; rintro v w3 ⟨rfl, hS'⟩; replace hS := hS.call0 hS') | refine .mk (by rw [strY_size, strY_size, be_len]; omega) ?_ | (refine drawf TB_ok rfl (by kernel_rfl) (by kernel_rfl) hS (List.Sublist.refl _) (List.Sublist.refl _) ?_; intro w1 hS) | refine br_t (by assumption) ?_ | refine br_f (by assumption) ?_)
    exact ⟨congrArg Value.string hr, hS.nil⟩
theorem rval18_c (v : Va) (ho : okVa v) (hk : okV v = true) (A : Option Addr) (c : Nat) (w : World) (hR : Rd w A (flat encU v.ks)) :
    Fc Tryz.prog 62 [vaV v A c] w fun u w' => u = .string (strY (vaT v)) ∧ St [] w w' [] := by
  have hp := fun (w' : World) => rputV_c v.d v.n ho.1.1 ho.1.2 A c v.ks ho.2 w'
  rw [show okVB v.d v.n v.ks = true from hk] at hp
  have hl := okVB_len hk
  refine fc_i TB_ok Tryz.func62 rfl (by kernel_rfl) ?_
  have hS := Sf.refl w
  repeat ((conv => whnf); first | (apply q_i; focus (intro w1 hS; (conv => whnf); first | exact ⟨rfl, rfl⟩ | ((refine ld_f hS 0 rfl rfl ?_); (conv => whnf); exact ⟨rfl, rfl⟩) | ((refine ldA_f hS 0 rfl rfl ?_); (conv => whnf); exact ⟨rfl, rfl⟩) | ((refine fc_m (hp _ (hR.below hS.nil) (by omega)) ?_; rintro v w3 ⟨rfl, hS'⟩; replace hS := hS.call0 hS'); (conv => whnf); exact ⟨rfl, rfl⟩))) | (refine nw_f hS ?_; intro b w1 hS) | refine as_i hS ?_ | refine as_i (hS.subs (List.nil_sublist _) sb9) ?_ | refine as_i (hS.subs (List.Sublist.refl _) sb9) ?_ | refine bar_f hS ?_ | refine ld_f hS 0 rfl rfl ?_ | refine ldA_f hS 0 rfl rfl ?_ | (refine stN_f hS 0 rfl (lb9 rfl) rfl rfl ?_; (conv => whnf); intro w1 hS) | (refine stM_f hS 0 rfl (lb9 rfl) rfl ?_; (conv => whnf); intro w1 hS) | (refine fc_m (hp _ (hR.below hS.nil) (by omega)) ?_; rintro v w3 ⟨rfl, hS'⟩; replace hS := hS.call0 hS') | (refine drawf TB_ok rfl (by kernel_rfl) (by kernel_rfl) hS (List.Sublist.refl _) (List.Sublist.refl _) ?_; intro w1 hS) | refine br_t (by assumption) ?_ | refine br_f (by assumption) ?_)
  exact ⟨rfl, hS.nil⟩
set_option maxHeartbeats 16000000 in
theorem rText18_c (x : Rx) (ho : okR x) (hc : checkR x = true) (h : Hd) (ms : List Sm) (w : World) (hx : MemR w x h ms) :
    Fc Tryz.prog 34 [recV x h] w fun v w' => v = .string (strY (recT x)) ∧ St [] w w' [] := by
  have hm := checkR_may hc
  have hxe := hx.eq
  have hxl := hx.len
  have hk8 := fun w => rnw_c x.k (by have := ho.k; omega) 1 (by decide) w
  unfold recT
  rcases checkR_kinds hc with hk | hk | hk | hk | hk | hk | hk | hk
  · rw [restT1 hk]
    rw [mayR1 hk] at hm
    have g1 : (x.k == 1) = true := by rw [hk]; rfl
    have g2 : (x.k == 2) = false := by rw [hk]; rfl
    have g3 : (x.k == 3) = false := by rw [hk]; rfl
    have g4 : (x.k == 4) = false := by rw [hk]; rfl
    have g5 : (x.k == 5) = false := by rw [hk]; rfl
    have g6 : (x.k == 6) = false := by rw [hk]; rfl
    have g7 : (x.k == 7) = false := by rw [hk]; rfl
    have g8 : (x.k == 8) = false := by rw [hk]; rfl
    refine fc_i TB_ok Tryz.func34 rfl (by kernel_rfl) ?_
    have hS := Sf.refl w
    repeat ((conv => whnf); first | (apply q_i; focus (intro w1 hS; (conv => whnf); first | exact ⟨rfl, rfl⟩ | ((refine ld_f hS 0 rfl rfl ?_); (conv => whnf); exact ⟨rfl, rfl⟩) | ((refine ldA_f hS 0 rfl rfl ?_); (conv => whnf); exact ⟨rfl, rfl⟩) | ((refine ldN_f hS 0 rfl (lb9 rfl) ?_); (conv => whnf); exact ⟨rfl, rfl⟩) | ((refine br_t (by assumption) ?_); (conv => whnf); exact ⟨rfl, rfl⟩) | ((refine br_f (by assumption) ?_); (conv => whnf); exact ⟨rfl, rfl⟩) | ((refine .mk ⟨by omega, by omega⟩ ?_); (conv => whnf); exact ⟨rfl, rfl⟩) | ((refine fc_m (hk8 _) ?_; rintro v w3 ⟨rfl, hS'⟩; replace hS := hS.call0 hS'); (conv => whnf); exact ⟨rfl, rfl⟩) | ((refine fc_m (rnw_c x.r (by have := ho.r; omega) 1 (by decide) _) ?_; rintro v w3 ⟨rfl, hS'⟩; replace hS := hS.call0 hS'); (conv => whnf); exact ⟨rfl, rfl⟩) | ((refine .mk (by simp only [strY_append, strY_size, List.length_append, be_len]; omega) ?_); (conv => whnf); exact ⟨rfl, rfl⟩))) | (refine nw_f hS ?_; intro b w1 hS) | refine as_i hS ?_ | refine as_i (hS.subs (List.nil_sublist _) sb9) ?_ | refine as_i (hS.subs (List.Sublist.refl _) sb9) ?_ | refine bar_f hS ?_ | refine ld_f hS 0 rfl rfl ?_ | refine ldA_f hS 0 rfl rfl ?_ | (refine stN_f hS 0 rfl (lb9 rfl) rfl rfl ?_; (conv => whnf); intro w1 hS) | (refine stM_f hS 0 rfl (lb9 rfl) rfl ?_; (conv => whnf); intro w1 hS) | refine ldN_f hS 0 rfl (lb9 rfl) ?_ | refine br_t (by assumption) ?_ | refine br_f (by assumption) ?_ | refine .mk ⟨by omega, by omega⟩ ?_ | (refine fc_m (hk8 _) ?_; rintro v w3 ⟨rfl, hS'⟩; replace hS := hS.call0 hS') | (refine fc_m (rnw_c x.r (by have := ho.r; omega) 1 (by decide) _) ?_; rintro v w3 ⟨rfl, hS'⟩; replace hS := hS.call0 hS') | refine .mk (by simp only [strY_append, strY_size, List.length_append, be_len]; omega) ?_ | (refine drawf TB_ok rfl (by kernel_rfl) (by kernel_rfl) hS (List.Sublist.refl _) (List.Sublist.refl _) ?_; intro w1 hS) | refine br_t (by assumption) ?_ | refine br_f (by assumption) ?_)
    refine ⟨?_, hS.nil⟩
    simp only [strY_append, List.append_assoc]
  · rw [restT2 hk]
    rw [mayR2 hk] at hm
    have g1 : (x.k == 1) = false := by rw [hk]; rfl
    have g2 : (x.k == 2) = true := by rw [hk]; rfl
    have g3 : (x.k == 3) = false := by rw [hk]; rfl
    have g4 : (x.k == 4) = false := by rw [hk]; rfl
    have g5 : (x.k == 5) = false := by rw [hk]; rfl
    have g6 : (x.k == 6) = false := by rw [hk]; rfl
    have g7 : (x.k == 7) = false := by rw [hk]; rfl
    have g8 : (x.k == 8) = false := by rw [hk]; rfl
    refine fc_i TB_ok Tryz.func34 rfl (by kernel_rfl) ?_
    have hS := Sf.refl w
    repeat ((conv => whnf); first | (apply q_i; focus (intro w1 hS; (conv => whnf); first | exact ⟨rfl, rfl⟩ | ((refine ld_f hS 0 rfl rfl ?_); (conv => whnf); exact ⟨rfl, rfl⟩) | ((refine ldA_f hS 0 rfl rfl ?_); (conv => whnf); exact ⟨rfl, rfl⟩) | ((refine ldN_f hS 0 rfl (lb9 rfl) ?_); (conv => whnf); exact ⟨rfl, rfl⟩) | ((refine br_t (by assumption) ?_); (conv => whnf); exact ⟨rfl, rfl⟩) | ((refine br_f (by assumption) ?_); (conv => whnf); exact ⟨rfl, rfl⟩) | ((refine .mk ⟨by omega, by omega⟩ ?_); (conv => whnf); exact ⟨rfl, rfl⟩) | ((refine fc_m (hk8 _) ?_; rintro v w3 ⟨rfl, hS'⟩; replace hS := hS.call0 hS'); (conv => whnf); exact ⟨rfl, rfl⟩) | ((refine fc_m (rnw_c x.n0 ho.n0 4 (by decide) _) ?_; rintro v w3 ⟨rfl, hS'⟩; replace hS := hS.call0 hS'); (conv => whnf); exact ⟨rfl, rfl⟩) | ((refine fc_m (rnw_c x.n1 ho.n1 4 (by decide) _) ?_; rintro v w3 ⟨rfl, hS'⟩; replace hS := hS.call0 hS'); (conv => whnf); exact ⟨rfl, rfl⟩) | ((refine fc_m (rnw_c x.n2 ho.n2 4 (by decide) _) ?_; rintro v w3 ⟨rfl, hS'⟩; replace hS := hS.call0 hS'); (conv => whnf); exact ⟨rfl, rfl⟩) | ((refine .mk (by simp only [strY_append, strY_size, List.length_append, be_len]; omega) ?_); (conv => whnf); exact ⟨rfl, rfl⟩))) | (refine nw_f hS ?_; intro b w1 hS) | refine as_i hS ?_ | refine as_i (hS.subs (List.nil_sublist _) sb9) ?_ | refine as_i (hS.subs (List.Sublist.refl _) sb9) ?_ | refine bar_f hS ?_ | refine ld_f hS 0 rfl rfl ?_ | refine ldA_f hS 0 rfl rfl ?_ | (refine stN_f hS 0 rfl (lb9 rfl) rfl rfl ?_; (conv => whnf); intro w1 hS) | (refine stM_f hS 0 rfl (lb9 rfl) rfl ?_; (conv => whnf); intro w1 hS) | refine ldN_f hS 0 rfl (lb9 rfl) ?_ | refine br_t (by assumption) ?_ | refine br_f (by assumption) ?_ | refine .mk ⟨by omega, by omega⟩ ?_ | (refine fc_m (hk8 _) ?_; rintro v w3 ⟨rfl, hS'⟩; replace hS := hS.call0 hS') | (refine fc_m (rnw_c x.n0 ho.n0 4 (by decide) _) ?_; rintro v w3 ⟨rfl, hS'⟩; replace hS := hS.call0 hS') | (refine fc_m (rnw_c x.n1 ho.n1 4 (by decide) _) ?_; rintro v w3 ⟨rfl, hS'⟩; replace hS := hS.call0 hS') | (refine fc_m (rnw_c x.n2 ho.n2 4 (by decide) _) ?_; rintro v w3 ⟨rfl, hS'⟩; replace hS := hS.call0 hS') | refine .mk (by simp only [strY_append, strY_size, List.length_append, be_len]; omega) ?_ | (refine drawf TB_ok rfl (by kernel_rfl) (by kernel_rfl) hS (List.Sublist.refl _) (List.Sublist.refl _) ?_; intro w1 hS) | refine br_t (by assumption) ?_ | refine br_f (by assumption) ?_)
    refine ⟨?_, hS.nil⟩
    simp only [strY_append, List.append_assoc]
  · rw [restT3 hk]
    rw [mayR3 hk] at hm
    rw [Bool.and_eq_true, inB_iff] at hm
    have g1 : (x.k == 1) = false := by rw [hk]; rfl
    have g2 : (x.k == 2) = false := by rw [hk]; rfl
    have g3 : (x.k == 3) = true := by rw [hk]; rfl
    have g4 : (x.k == 4) = false := by rw [hk]; rfl
    have g5 : (x.k == 5) = false := by rw [hk]; rfl
    have g6 : (x.k == 6) = false := by rw [hk]; rfl
    have g7 : (x.k == 7) = false := by rw [hk]; rfl
    have g8 : (x.k == 8) = false := by rw [hk]; rfl
    refine fc_i TB_ok Tryz.func34 rfl (by kernel_rfl) ?_
    have hS := Sf.refl w
    repeat ((conv => whnf); first | (apply q_i; focus (intro w1 hS; (conv => whnf); first | exact ⟨rfl, rfl⟩ | ((refine ld_f hS 0 rfl rfl ?_); (conv => whnf); exact ⟨rfl, rfl⟩) | ((refine ldA_f hS 0 rfl rfl ?_); (conv => whnf); exact ⟨rfl, rfl⟩) | ((refine ldN_f hS 0 rfl (lb9 rfl) ?_); (conv => whnf); exact ⟨rfl, rfl⟩) | ((refine br_t (by assumption) ?_); (conv => whnf); exact ⟨rfl, rfl⟩) | ((refine br_f (by assumption) ?_); (conv => whnf); exact ⟨rfl, rfl⟩) | ((refine .mk ⟨by omega, by omega⟩ ?_); (conv => whnf); exact ⟨rfl, rfl⟩) | ((refine fc_m (hk8 _) ?_; rintro v w3 ⟨rfl, hS'⟩; replace hS := hS.call0 hS'); (conv => whnf); exact ⟨rfl, rfl⟩) | ((refine fc_m (rnw_c x.rk (by have := ho.rk; omega) 1 (by decide) _) ?_; rintro v w3 ⟨rfl, hS'⟩; replace hS := hS.call0 hS'); (conv => whnf); exact ⟨rfl, rfl⟩) | ((refine fc_m (rnw_c x.ra ho.ra 4 (by decide) _) ?_; rintro v w3 ⟨rfl, hS'⟩; replace hS := hS.call0 hS'); (conv => whnf); exact ⟨rfl, rfl⟩) | ((refine fc_m (rn18_c x.rq hm.2.1 (by omega) 4 (by decide) _) ?_; rintro v w3 ⟨rfl, hS'⟩; replace hS := hS.call0 hS'); (conv => whnf); exact ⟨rfl, rfl⟩) | ((refine .mk (by simp only [strY_append, strY_size, List.length_append, be_len]; omega) ?_); (conv => whnf); exact ⟨rfl, rfl⟩))) | (refine nw_f hS ?_; intro b w1 hS) | refine as_i hS ?_ | refine as_i (hS.subs (List.nil_sublist _) sb9) ?_ | refine as_i (hS.subs (List.Sublist.refl _) sb9) ?_ | refine bar_f hS ?_ | refine ld_f hS 0 rfl rfl ?_ | refine ldA_f hS 0 rfl rfl ?_ | (refine stN_f hS 0 rfl (lb9 rfl) rfl rfl ?_; (conv => whnf); intro w1 hS) | (refine stM_f hS 0 rfl (lb9 rfl) rfl ?_; (conv => whnf); intro w1 hS) | refine ldN_f hS 0 rfl (lb9 rfl) ?_ | refine br_t (by assumption) ?_ | refine br_f (by assumption) ?_ | refine .mk ⟨by omega, by omega⟩ ?_ | (refine fc_m (hk8 _) ?_; rintro v w3 ⟨rfl, hS'⟩; replace hS := hS.call0 hS') | (refine fc_m (rnw_c x.rk (by have := ho.rk; omega) 1 (by decide) _) ?_; rintro v w3 ⟨rfl, hS'⟩; replace hS := hS.call0 hS') | (refine fc_m (rnw_c x.ra ho.ra 4 (by decide) _) ?_; rintro v w3 ⟨rfl, hS'⟩; replace hS := hS.call0 hS') | (refine fc_m (rn18_c x.rq hm.2.1 (by omega) 4 (by decide) _) ?_; rintro v w3 ⟨rfl, hS'⟩; replace hS := hS.call0 hS') | refine .mk (by simp only [strY_append, strY_size, List.length_append, be_len]; omega) ?_ | (refine drawf TB_ok rfl (by kernel_rfl) (by kernel_rfl) hS (List.Sublist.refl _) (List.Sublist.refl _) ?_; intro w1 hS) | refine br_t (by assumption) ?_ | refine br_f (by assumption) ?_)
    refine ⟨?_, hS.nil⟩
    simp only [strY_append, List.append_assoc]
  · rw [restT4 hk]
    rw [mayR4 hk] at hm
    rw [Bool.and_eq_true] at hm
    have hp := namedB_len hm.1
    have hpt : (pathT x.p).length ≤ 37 := by unfold pathT; rw [List.length_append, be_len]; omega
    obtain ⟨hmv, h8, he⟩ := regB_parts hm.2
    have hcl := ctxT_len x.f
    have g1 : (x.k == 1) = false := by rw [hk]; rfl
    have g2 : (x.k == 2) = false := by rw [hk]; rfl
    have g3 : (x.k == 3) = false := by rw [hk]; rfl
    have g4 : (x.k == 4) = true := by rw [hk]; rfl
    have g5 : (x.k == 5) = false := by rw [hk]; rfl
    have g6 : (x.k == 6) = false := by rw [hk]; rfl
    have g7 : (x.k == 7) = false := by rw [hk]; rfl
    have g8 : (x.k == 8) = false := by rw [hk]; rfl
    refine fc_i TB_ok Tryz.func34 rfl (by kernel_rfl) ?_
    have hS := Sf.refl w
    repeat ((conv => whnf); first | (apply q_i; focus (intro w1 hS; (conv => whnf); first | exact ⟨rfl, rfl⟩ | ((refine ld_f hS 0 rfl rfl ?_); (conv => whnf); exact ⟨rfl, rfl⟩) | ((refine ldA_f hS 0 rfl rfl ?_); (conv => whnf); exact ⟨rfl, rfl⟩) | ((refine ldN_f hS 0 rfl (lb9 rfl) ?_); (conv => whnf); exact ⟨rfl, rfl⟩) | ((refine br_t (by assumption) ?_); (conv => whnf); exact ⟨rfl, rfl⟩) | ((refine br_f (by assumption) ?_); (conv => whnf); exact ⟨rfl, rfl⟩) | ((refine .mk ⟨by omega, by omega⟩ ?_); (conv => whnf); exact ⟨rfl, rfl⟩) | ((refine fc_m (hk8 _) ?_; rintro v w3 ⟨rfl, hS'⟩; replace hS := hS.call0 hS'); (conv => whnf); exact ⟨rfl, rfl⟩) | ((refine fc_m (rtext18_c x.p (by omega) _) ?_; rintro v w3 ⟨rfl, hS'⟩; replace hS := hS.call0 hS'); (conv => whnf); exact ⟨rfl, rfl⟩) | ((refine fc_m (rvec18_c x.f (fun j hj => ⟨(ho.f j hj).1, mayVB_le hmv j hj⟩) _) ?_; rintro v w3 ⟨rfl, hS'⟩; replace hS := hS.call0 hS'); (conv => whnf); exact ⟨rfl, rfl⟩) | ((refine fc_m (rn18_c (x.xs.length : Int) (by omega) (by omega) 1 (by decide) _) ?_; rintro v w3 ⟨rfl, hS'⟩; replace hS := hS.call0 hS'); (conv => whnf); exact ⟨rfl, rfl⟩) | ((refine .mk (by simp only [strY_append, strY_size, List.length_append, be_len]; omega) ?_); (conv => whnf); exact ⟨rfl, rfl⟩))) | (refine nw_f hS ?_; intro b w1 hS) | refine as_i hS ?_ | refine as_i (hS.subs (List.nil_sublist _) sb9) ?_ | refine as_i (hS.subs (List.Sublist.refl _) sb9) ?_ | refine bar_f hS ?_ | refine ld_f hS 0 rfl rfl ?_ | refine ldA_f hS 0 rfl rfl ?_ | (refine stN_f hS 0 rfl (lb9 rfl) rfl rfl ?_; (conv => whnf); intro w1 hS) | (refine stM_f hS 0 rfl (lb9 rfl) rfl ?_; (conv => whnf); intro w1 hS) | refine ldN_f hS 0 rfl (lb9 rfl) ?_ | refine br_t (by assumption) ?_ | refine br_f (by assumption) ?_ | refine .mk ⟨by omega, by omega⟩ ?_ | (refine fc_m (hk8 _) ?_; rintro v w3 ⟨rfl, hS'⟩; replace hS := hS.call0 hS') | (refine fc_m (rtext18_c x.p (by omega) _) ?_; rintro v w3 ⟨rfl, hS'⟩; replace hS := hS.call0 hS') | (refine fc_m (rvec18_c x.f (fun j hj => ⟨(ho.f j hj).1, mayVB_le hmv j hj⟩) _) ?_; rintro v w3 ⟨rfl, hS'⟩; replace hS := hS.call0 hS') | (refine fc_m (rn18_c (x.xs.length : Int) (by omega) (by omega) 1 (by decide) _) ?_; rintro v w3 ⟨rfl, hS'⟩; replace hS := hS.call0 hS') | refine .mk (by simp only [strY_append, strY_size, List.length_append, be_len]; omega) ?_ | (refine drawf TB_ok rfl (by kernel_rfl) (by kernel_rfl) hS (List.Sublist.refl _) (List.Sublist.refl _) ?_; intro w1 hS) | refine br_t (by assumption) ?_ | refine br_f (by assumption) ?_)
    generalize hpre : be x.k 1 ++ pathT x.p ++ ctxT x.f ++ be x.xs.length 1 = pre
    have hprl : pre.length ≤ 60 := by rw [← hpre]; simp only [List.length_append, be_len]; omega
    have hprs : strY (be x.k 1) ++ strY (pathT x.p) ++ strY (ctxT x.f) ++ strY (be x.xs.length 1) = strY pre := by rw [← hpre]; simp only [strY_append]
    refine loop_i TB_ok (fun i : Nat => [(4, .int .i64 i), (3, .string (strY (pre ++ sbsT (x.xs.take i))))]) (fun i w' => i ≤ ms.length ∧ Sf [] w w' [] [_]) (fun i => ms.length - i) 0 (by rw [show pre ++ sbsT (x.xs.take 0) = pre by simp [sbsT], ← hprs]; rfl) ⟨Nat.zero_le _, hS⟩ ?_
    rintro i us w2 ⟨hi, hS⟩
    by_cases hlt : i < ms.length
    · have h1 : decide ((i : Int) < (x.xs.length : Int)) = true := decide_eq_true (by omega)
      obtain ⟨x0, off, hA⟩ := hx.l.rd.form (flat_ne encM_len (by omega) hlt)
      have hRA : ∀ {w' : World}, St [] w w' [] → Rd w' (some ⟨x0, off, none⟩) (flat encM ms) := fun {w'} hs => by
        have := hx.l.rd.below hs
        rwa [hA] at this
      have hmx := List.getElem_mem hlt
      have hs : ms[i].s ∈ x.xs := by rw [hxe]; exact List.mem_map_of_mem hmx
      have hos := ho.xs _ hs
      have hes := he _ hs
      have hn16 := (hasB_dot hes.1).2.2
      have hvl := valT_len hes.2
      have hst : sbsT (x.xs.take (i + 1)) = sbsT (x.xs.take i) ++ sbT ms[i].s := by
        rw [sbsT_snoc _ (by omega)]
        simp only [hxe, List.getElem_map]
      have hbl := sbsT_len (x.xs.take i) (fun s hs' => (he s (List.mem_of_mem_take hs')).2)
      rw [List.length_take] at hbl
      generalize hacc : pre ++ sbsT (x.xs.take i) = acc
      have hal : acc.length ≤ 300 := by rw [← hacc, List.length_append]; omega
      repeat ((conv => whnf); first | (apply q_i; focus (intro w1 hS; (conv => whnf); first | exact ⟨rfl, rfl⟩ | ((refine ld_f hS 0 rfl rfl ?_); (conv => whnf); exact ⟨rfl, rfl⟩) | ((refine ld_f hS 1 rfl rfl ?_); (conv => whnf); exact ⟨rfl, rfl⟩) | ((refine ldA_f hS 0 rfl rfl ?_); (conv => whnf); exact ⟨rfl, rfl⟩) | ((refine ldA_f hS 1 rfl rfl ?_); (conv => whnf); exact ⟨rfl, rfl⟩) | ((refine br_t (by assumption) ?_); (conv => whnf); exact ⟨rfl, rfl⟩) | ((refine .mk ⟨by omega, by omega⟩ ?_; refine ix_i hA ?_); (conv => whnf); exact ⟨rfl, rfl⟩) | ((refine ldN_elp encM_len (hRA hS.nil).at (i := i) (j0 := 0) hlt rfl (lb9 rfl) [.int .u8 ms[i].s.r, .int .u32 ms[i].s.n] rfl ?_); (conv => whnf); exact ⟨rfl, rfl⟩))) | (refine nw_f hS ?_; intro b w1 hS) | refine as_i hS ?_ | refine as_i (hS.subs (List.nil_sublist _) sb9) ?_ | refine as_i (hS.subs (List.Sublist.refl _) sb9) ?_ | refine bar_f hS ?_ | refine ld_f hS 0 rfl rfl ?_ | refine ld_f hS 1 rfl rfl ?_ | refine ldA_f hS 0 rfl rfl ?_ | refine ldA_f hS 1 rfl rfl ?_ | (refine stN_f hS 0 rfl (lb9 rfl) rfl rfl ?_; (conv => whnf); intro w1 hS) | (refine stN_f hS 1 rfl (lb9 rfl) rfl rfl ?_; (conv => whnf); intro w1 hS) | (refine stM_f hS 0 rfl (lb9 rfl) rfl ?_; (conv => whnf); intro w1 hS) | (refine stM_f hS 1 rfl (lb9 rfl) rfl ?_; (conv => whnf); intro w1 hS) | refine br_t (by assumption) ?_ | (refine .mk ⟨by omega, by omega⟩ ?_; refine ix_i hA ?_) | refine ldN_elp encM_len (hRA hS.nil).at (i := i) (j0 := 0) hlt rfl (lb9 rfl) [.int .u8 ms[i].s.r, .int .u32 ms[i].s.n] rfl ?_ | refine br_t (by assumption) ?_ | refine br_f (by assumption) ?_)
      refine drawf TB_ok rfl (by kernel_rfl) (by kernel_rfl) hS (List.Sublist.refl _) (List.Sublist.refl _) ?_; intro w1 hS
      repeat ((conv => whnf); first | (apply q_i; focus (intro w1 hS; (conv => whnf); first | exact ⟨rfl, rfl⟩ | ((refine ld_f hS 0 rfl rfl ?_); (conv => whnf); exact ⟨rfl, rfl⟩) | ((refine ld_f hS 1 rfl rfl ?_); (conv => whnf); exact ⟨rfl, rfl⟩) | ((refine ldA_f hS 0 rfl rfl ?_); (conv => whnf); exact ⟨rfl, rfl⟩) | ((refine ldA_f hS 1 rfl rfl ?_); (conv => whnf); exact ⟨rfl, rfl⟩) | ((refine .mk ⟨by omega, by omega⟩ ?_; refine ix_i hA ?_); (conv => whnf); exact ⟨rfl, rfl⟩) | ((refine ldN_elp encM_len (hRA hS.nil).at (i := i) (j0 := 2) hlt rfl (lb9 rfl) [.bool ms[i].s.v.d, .int .i64 ms[i].s.v.n, .slice ms[i].A ms[i].s.v.ks.length ms[i].c] rfl ?_); (conv => whnf); exact ⟨rfl, rfl⟩) | ((refine fc_m (rnw_c ms[i].s.r (by have := hos.1; omega) 1 (by decide) _) ?_; rintro v w3 ⟨rfl, hS'⟩; replace hS := hS.call0 hS'); (conv => whnf); exact ⟨rfl, rfl⟩) | ((refine fc_m (rnw_c ms[i].s.n hos.2.1 2 (by decide) _) ?_; rintro v w3 ⟨rfl, hS'⟩; replace hS := hS.call0 hS'); (conv => whnf); exact ⟨rfl, rfl⟩) | ((refine fc_m (rval18_c ms[i].s.v hos.2.2 hes.2 ms[i].A ms[i].c _ ((hx.l.el _ hmx).below hS.nil)) ?_; rintro v w3 ⟨rfl, hS'⟩; replace hS := hS.call0 hS'); (conv => whnf); exact ⟨rfl, rfl⟩) | ((refine .mk (by simp only [strY_append, strY_size, List.length_append, be_len]; omega) ?_); (conv => whnf); exact ⟨rfl, rfl⟩))) | (refine nw_f hS ?_; intro b w1 hS) | refine as_i hS ?_ | refine as_i (hS.subs (List.nil_sublist _) sb9) ?_ | refine as_i (hS.subs (List.Sublist.refl _) sb9) ?_ | refine bar_f hS ?_ | refine ld_f hS 0 rfl rfl ?_ | refine ld_f hS 1 rfl rfl ?_ | refine ldA_f hS 0 rfl rfl ?_ | refine ldA_f hS 1 rfl rfl ?_ | (refine stN_f hS 0 rfl (lb9 rfl) rfl rfl ?_; (conv => whnf); intro w1 hS) | (refine stN_f hS 1 rfl (lb9 rfl) rfl rfl ?_; (conv => whnf); intro w1 hS) | (refine stM_f hS 0 rfl (lb9 rfl) rfl ?_; (conv => whnf); intro w1 hS) | (refine stM_f hS 1 rfl (lb9 rfl) rfl ?_; (conv => whnf); intro w1 hS) | (refine .mk ⟨by omega, by omega⟩ ?_; refine ix_i hA ?_) | refine ldN_elp encM_len (hRA hS.nil).at (i := i) (j0 := 2) hlt rfl (lb9 rfl) [.bool ms[i].s.v.d, .int .i64 ms[i].s.v.n, .slice ms[i].A ms[i].s.v.ks.length ms[i].c] rfl ?_ | (refine fc_m (rnw_c ms[i].s.r (by have := hos.1; omega) 1 (by decide) _) ?_; rintro v w3 ⟨rfl, hS'⟩; replace hS := hS.call0 hS') | (refine fc_m (rnw_c ms[i].s.n hos.2.1 2 (by decide) _) ?_; rintro v w3 ⟨rfl, hS'⟩; replace hS := hS.call0 hS') | (refine fc_m (rval18_c ms[i].s.v hos.2.2 hes.2 ms[i].A ms[i].c _ ((hx.l.el _ hmx).below hS.nil)) ?_; rintro v w3 ⟨rfl, hS'⟩; replace hS := hS.call0 hS') | refine .mk (by simp only [strY_append, strY_size, List.length_append, be_len]; omega) ?_ | (refine drawf TB_ok rfl (by kernel_rfl) (by kernel_rfl) hS (List.Sublist.refl _) (List.Sublist.refl _) ?_; intro w1 hS) | refine br_t (by assumption) ?_ | refine br_f (by assumption) ?_)
      refine ⟨rfl, i + 1, ?_, ⟨by omega, hS.subs (List.Sublist.refl _) (.cons _ (.refl _))⟩, by omega⟩
      have e2 : strY (pre ++ sbsT (x.xs.take (i + 1))) = strY acc ++ strY (be ms[i].s.r 1) ++ strY (be ms[i].s.n 2) ++ strY (vaT ms[i].s.v) := by
        rw [hst, ← List.append_assoc, hacc]
        unfold sbT
        simp only [strY_append, List.append_assoc]
      rw [wi hlt (by omega), e2]
      rfl
    · have h1 : decide ((i : Int) < (x.xs.length : Int)) = false := decide_eq_false (by omega)
      have hge : i = ms.length := by omega
      have hall : x.xs.take i = x.xs := List.take_of_length_le (by omega)
      rw [hall]
      have hr : pre ++ sbsT x.xs = be x.k 1 ++ (pathT x.p ++ ctxT x.f ++ be x.xs.length 1 ++ sbsT x.xs) := by rw [← hpre]; simp only [List.append_assoc]
      rw [← hr]
      generalize pre ++ sbsT x.xs = acc
      repeat ((conv => whnf); first | (apply q_i; focus (intro w1 hS; (conv => whnf); first | exact ⟨rfl, rfl⟩ | ((refine ld_f hS 0 rfl rfl ?_); (conv => whnf); exact ⟨rfl, rfl⟩) | ((refine ldA_f hS 0 rfl rfl ?_); (conv => whnf); exact ⟨rfl, rfl⟩) | ((refine br_f (by assumption) ?_); (conv => whnf); exact ⟨rfl, rfl⟩))) | (refine nw_f hS ?_; intro b w1 hS) | refine as_i hS ?_ | refine as_i (hS.subs (List.nil_sublist _) sb9) ?_ | refine as_i (hS.subs (List.Sublist.refl _) sb9) ?_ | refine bar_f hS ?_ | refine ld_f hS 0 rfl rfl ?_ | refine ldA_f hS 0 rfl rfl ?_ | (refine stN_f hS 0 rfl (lb9 rfl) rfl rfl ?_; (conv => whnf); intro w1 hS) | (refine stM_f hS 0 rfl (lb9 rfl) rfl ?_; (conv => whnf); intro w1 hS) | refine br_f (by assumption) ?_ | (refine drawf TB_ok rfl (by kernel_rfl) (by kernel_rfl) hS (List.Sublist.refl _) (List.Sublist.refl _) ?_; intro w1 hS) | refine br_t (by assumption) ?_ | refine br_f (by assumption) ?_)
      exact ⟨rfl, hS.nil⟩
  · rw [restT5 hk]
    rw [mayR5 hk] at hm
    rw [Bool.and_eq_true] at hm
    have hp := namedB_len hm.1
    have hpt : (pathT x.p).length ≤ 37 := by unfold pathT; rw [List.length_append, be_len]; omega
    have hvk : okV x.v = true := by have := hm.2; unfold verB at this; simp only [Bool.and_eq_true] at this; exact this.2.2.2.2
    have hvl := valT_len hvk
    have g1 : (x.k == 1) = false := by rw [hk]; rfl
    have g2 : (x.k == 2) = false := by rw [hk]; rfl
    have g3 : (x.k == 3) = false := by rw [hk]; rfl
    have g4 : (x.k == 4) = false := by rw [hk]; rfl
    have g5 : (x.k == 5) = true := by rw [hk]; rfl
    have g6 : (x.k == 6) = false := by rw [hk]; rfl
    have g7 : (x.k == 7) = false := by rw [hk]; rfl
    have g8 : (x.k == 8) = false := by rw [hk]; rfl
    refine fc_i TB_ok Tryz.func34 rfl (by kernel_rfl) ?_
    have hS := Sf.refl w
    repeat ((conv => whnf); first | (apply q_i; focus (intro w1 hS; (conv => whnf); first | exact ⟨rfl, rfl⟩ | ((refine ld_f hS 0 rfl rfl ?_); (conv => whnf); exact ⟨rfl, rfl⟩) | ((refine ldA_f hS 0 rfl rfl ?_); (conv => whnf); exact ⟨rfl, rfl⟩) | ((refine ldN_f hS 0 rfl (lb9 rfl) ?_); (conv => whnf); exact ⟨rfl, rfl⟩) | ((refine br_t (by assumption) ?_); (conv => whnf); exact ⟨rfl, rfl⟩) | ((refine br_f (by assumption) ?_); (conv => whnf); exact ⟨rfl, rfl⟩) | ((refine .mk ⟨by omega, by omega⟩ ?_); (conv => whnf); exact ⟨rfl, rfl⟩) | ((refine fc_m (hk8 _) ?_; rintro v w3 ⟨rfl, hS'⟩; replace hS := hS.call0 hS'); (conv => whnf); exact ⟨rfl, rfl⟩) | ((refine fc_m (rtext18_c x.p (by omega) _) ?_; rintro v w3 ⟨rfl, hS'⟩; replace hS := hS.call0 hS'); (conv => whnf); exact ⟨rfl, rfl⟩) | ((refine fc_m (rnw_c x.vi ho.vi 4 (by decide) _) ?_; rintro v w3 ⟨rfl, hS'⟩; replace hS := hS.call0 hS'); (conv => whnf); exact ⟨rfl, rfl⟩) | ((refine fc_m (rnw_c x.vt ho.vt 4 (by decide) _) ?_; rintro v w3 ⟨rfl, hS'⟩; replace hS := hS.call0 hS'); (conv => whnf); exact ⟨rfl, rfl⟩) | ((refine fc_m (rnw_c x.vc (by have := ho.vc; omega) 1 (by decide) _) ?_; rintro v w3 ⟨rfl, hS'⟩; replace hS := hS.call0 hS'); (conv => whnf); exact ⟨rfl, rfl⟩) | ((refine fc_m (rval18_c x.v ho.v hvk h.B h.e _ (hx.v.below hS.nil)) ?_; rintro v w3 ⟨rfl, hS'⟩; replace hS := hS.call0 hS'); (conv => whnf); exact ⟨rfl, rfl⟩) | ((refine .mk (by simp only [strY_append, strY_size, List.length_append, be_len]; omega) ?_); (conv => whnf); exact ⟨rfl, rfl⟩))) | (refine nw_f hS ?_; intro b w1 hS) | refine as_i hS ?_ | refine as_i (hS.subs (List.nil_sublist _) sb9) ?_ | refine as_i (hS.subs (List.Sublist.refl _) sb9) ?_ | refine bar_f hS ?_ | refine ld_f hS 0 rfl rfl ?_ | refine ldA_f hS 0 rfl rfl ?_ | (refine stN_f hS 0 rfl (lb9 rfl) rfl rfl ?_; (conv => whnf); intro w1 hS) | (refine stM_f hS 0 rfl (lb9 rfl) rfl ?_; (conv => whnf); intro w1 hS) | refine ldN_f hS 0 rfl (lb9 rfl) ?_ | refine br_t (by assumption) ?_ | refine br_f (by assumption) ?_ | refine .mk ⟨by omega, by omega⟩ ?_ | (refine fc_m (hk8 _) ?_; rintro v w3 ⟨rfl, hS'⟩; replace hS := hS.call0 hS') | (refine fc_m (rtext18_c x.p (by omega) _) ?_; rintro v w3 ⟨rfl, hS'⟩; replace hS := hS.call0 hS') | (refine fc_m (rnw_c x.vi ho.vi 4 (by decide) _) ?_; rintro v w3 ⟨rfl, hS'⟩; replace hS := hS.call0 hS') | (refine fc_m (rnw_c x.vt ho.vt 4 (by decide) _) ?_; rintro v w3 ⟨rfl, hS'⟩; replace hS := hS.call0 hS') | (refine fc_m (rnw_c x.vc (by have := ho.vc; omega) 1 (by decide) _) ?_; rintro v w3 ⟨rfl, hS'⟩; replace hS := hS.call0 hS') | (refine fc_m (rval18_c x.v ho.v hvk h.B h.e _ (hx.v.below hS.nil)) ?_; rintro v w3 ⟨rfl, hS'⟩; replace hS := hS.call0 hS') | refine .mk (by simp only [strY_append, strY_size, List.length_append, be_len]; omega) ?_ | (refine drawf TB_ok rfl (by kernel_rfl) (by kernel_rfl) hS (List.Sublist.refl _) (List.Sublist.refl _) ?_; intro w1 hS) | refine br_t (by assumption) ?_ | refine br_f (by assumption) ?_)
    refine ⟨?_, hS.nil⟩
    simp only [strY_append, List.append_assoc]
  · rw [restT6 hk]
    rw [mayR6 hk] at hm
    have g1 : (x.k == 1) = false := by rw [hk]; rfl
    have g2 : (x.k == 2) = false := by rw [hk]; rfl
    have g3 : (x.k == 3) = false := by rw [hk]; rfl
    have g4 : (x.k == 4) = false := by rw [hk]; rfl
    have g5 : (x.k == 5) = false := by rw [hk]; rfl
    have g6 : (x.k == 6) = true := by rw [hk]; rfl
    have g7 : (x.k == 7) = false := by rw [hk]; rfl
    have g8 : (x.k == 8) = false := by rw [hk]; rfl
    refine fc_i TB_ok Tryz.func34 rfl (by kernel_rfl) ?_
    have hS := Sf.refl w
    repeat ((conv => whnf); first | (apply q_i; focus (intro w1 hS; (conv => whnf); first | exact ⟨rfl, rfl⟩ | ((refine ld_f hS 0 rfl rfl ?_); (conv => whnf); exact ⟨rfl, rfl⟩) | ((refine ldA_f hS 0 rfl rfl ?_); (conv => whnf); exact ⟨rfl, rfl⟩) | ((refine ldN_f hS 0 rfl (lb9 rfl) ?_); (conv => whnf); exact ⟨rfl, rfl⟩) | ((refine br_t (by assumption) ?_); (conv => whnf); exact ⟨rfl, rfl⟩) | ((refine br_f (by assumption) ?_); (conv => whnf); exact ⟨rfl, rfl⟩) | ((refine .mk ⟨by omega, by omega⟩ ?_); (conv => whnf); exact ⟨rfl, rfl⟩) | ((refine fc_m (hk8 _) ?_; rintro v w3 ⟨rfl, hS'⟩; replace hS := hS.call0 hS'); (conv => whnf); exact ⟨rfl, rfl⟩) | ((refine fc_m (rnw_c x.vi ho.vi 4 (by decide) _) ?_; rintro v w3 ⟨rfl, hS'⟩; replace hS := hS.call0 hS'); (conv => whnf); exact ⟨rfl, rfl⟩) | ((refine .mk (by simp only [strY_append, strY_size, List.length_append, be_len]; omega) ?_); (conv => whnf); exact ⟨rfl, rfl⟩))) | (refine nw_f hS ?_; intro b w1 hS) | refine as_i hS ?_ | refine as_i (hS.subs (List.nil_sublist _) sb9) ?_ | refine as_i (hS.subs (List.Sublist.refl _) sb9) ?_ | refine bar_f hS ?_ | refine ld_f hS 0 rfl rfl ?_ | refine ldA_f hS 0 rfl rfl ?_ | (refine stN_f hS 0 rfl (lb9 rfl) rfl rfl ?_; (conv => whnf); intro w1 hS) | (refine stM_f hS 0 rfl (lb9 rfl) rfl ?_; (conv => whnf); intro w1 hS) | refine ldN_f hS 0 rfl (lb9 rfl) ?_ | refine br_t (by assumption) ?_ | refine br_f (by assumption) ?_ | refine .mk ⟨by omega, by omega⟩ ?_ | (refine fc_m (hk8 _) ?_; rintro v w3 ⟨rfl, hS'⟩; replace hS := hS.call0 hS') | (refine fc_m (rnw_c x.vi ho.vi 4 (by decide) _) ?_; rintro v w3 ⟨rfl, hS'⟩; replace hS := hS.call0 hS') | refine .mk (by simp only [strY_append, strY_size, List.length_append, be_len]; omega) ?_ | (refine drawf TB_ok rfl (by kernel_rfl) (by kernel_rfl) hS (List.Sublist.refl _) (List.Sublist.refl _) ?_; intro w1 hS) | refine br_t (by assumption) ?_ | refine br_f (by assumption) ?_)
    refine ⟨?_, hS.nil⟩
    simp only [strY_append, List.append_assoc]
  · rw [restT7 hk]
    rw [mayR7 hk] at hm
    obtain ⟨q1, q2, q3⟩ := chunkB_in hm
    have g1 : (x.k == 1) = false := by rw [hk]; rfl
    have g2 : (x.k == 2) = false := by rw [hk]; rfl
    have g3 : (x.k == 3) = false := by rw [hk]; rfl
    have g4 : (x.k == 4) = false := by rw [hk]; rfl
    have g5 : (x.k == 5) = false := by rw [hk]; rfl
    have g6 : (x.k == 6) = false := by rw [hk]; rfl
    have g7 : (x.k == 7) = true := by rw [hk]; rfl
    have g8 : (x.k == 8) = false := by rw [hk]; rfl
    refine fc_i TB_ok Tryz.func34 rfl (by kernel_rfl) ?_
    have hS := Sf.refl w
    repeat ((conv => whnf); first | (apply q_i; focus (intro w1 hS; (conv => whnf); first | exact ⟨rfl, rfl⟩ | ((refine ld_f hS 0 rfl rfl ?_); (conv => whnf); exact ⟨rfl, rfl⟩) | ((refine ldA_f hS 0 rfl rfl ?_); (conv => whnf); exact ⟨rfl, rfl⟩) | ((refine ldN_f hS 0 rfl (lb9 rfl) ?_); (conv => whnf); exact ⟨rfl, rfl⟩) | ((refine br_t (by assumption) ?_); (conv => whnf); exact ⟨rfl, rfl⟩) | ((refine br_f (by assumption) ?_); (conv => whnf); exact ⟨rfl, rfl⟩) | ((refine .mk ⟨by omega, by omega⟩ ?_); (conv => whnf); exact ⟨rfl, rfl⟩) | ((refine fc_m (hk8 _) ?_; rintro v w3 ⟨rfl, hS'⟩; replace hS := hS.call0 hS'); (conv => whnf); exact ⟨rfl, rfl⟩) | ((refine fc_m (rnw_c x.ci ho.ci 4 (by decide) _) ?_; rintro v w3 ⟨rfl, hS'⟩; replace hS := hS.call0 hS'); (conv => whnf); exact ⟨rfl, rfl⟩) | ((refine fc_m (rn18_c x.cb q1.1 (by omega) 2 (by decide) _) ?_; rintro v w3 ⟨rfl, hS'⟩; replace hS := hS.call0 hS'); (conv => whnf); exact ⟨rfl, rfl⟩) | ((refine fc_m (rn18_c x.cr q2.1 (by omega) 2 (by decide) _) ?_; rintro v w3 ⟨rfl, hS'⟩; replace hS := hS.call0 hS'); (conv => whnf); exact ⟨rfl, rfl⟩) | ((refine fc_m (rn18_c x.cs q3.1 (by omega) 1 (by decide) _) ?_; rintro v w3 ⟨rfl, hS'⟩; replace hS := hS.call0 hS'); (conv => whnf); exact ⟨rfl, rfl⟩) | ((refine .mk (by simp only [strY_append, strY_size, List.length_append, be_len]; omega) ?_); (conv => whnf); exact ⟨rfl, rfl⟩))) | (refine nw_f hS ?_; intro b w1 hS) | refine as_i hS ?_ | refine as_i (hS.subs (List.nil_sublist _) sb9) ?_ | refine as_i (hS.subs (List.Sublist.refl _) sb9) ?_ | refine bar_f hS ?_ | refine ld_f hS 0 rfl rfl ?_ | refine ldA_f hS 0 rfl rfl ?_ | (refine stN_f hS 0 rfl (lb9 rfl) rfl rfl ?_; (conv => whnf); intro w1 hS) | (refine stM_f hS 0 rfl (lb9 rfl) rfl ?_; (conv => whnf); intro w1 hS) | refine ldN_f hS 0 rfl (lb9 rfl) ?_ | refine br_t (by assumption) ?_ | refine br_f (by assumption) ?_ | refine .mk ⟨by omega, by omega⟩ ?_ | (refine fc_m (hk8 _) ?_; rintro v w3 ⟨rfl, hS'⟩; replace hS := hS.call0 hS') | (refine fc_m (rnw_c x.ci ho.ci 4 (by decide) _) ?_; rintro v w3 ⟨rfl, hS'⟩; replace hS := hS.call0 hS') | (refine fc_m (rn18_c x.cb q1.1 (by omega) 2 (by decide) _) ?_; rintro v w3 ⟨rfl, hS'⟩; replace hS := hS.call0 hS') | (refine fc_m (rn18_c x.cr q2.1 (by omega) 2 (by decide) _) ?_; rintro v w3 ⟨rfl, hS'⟩; replace hS := hS.call0 hS') | (refine fc_m (rn18_c x.cs q3.1 (by omega) 1 (by decide) _) ?_; rintro v w3 ⟨rfl, hS'⟩; replace hS := hS.call0 hS') | refine .mk (by simp only [strY_append, strY_size, List.length_append, be_len]; omega) ?_ | (refine drawf TB_ok rfl (by kernel_rfl) (by kernel_rfl) hS (List.Sublist.refl _) (List.Sublist.refl _) ?_; intro w1 hS) | refine br_t (by assumption) ?_ | refine br_f (by assumption) ?_)
    refine ⟨?_, hS.nil⟩
    simp only [strY_append, List.append_assoc]
  · rw [restT8 hk]
    rw [mayR8 hk] at hm
    rw [Bool.and_eq_true, Bool.and_eq_true] at hm
    have hp := namedB_len hm.2.1
    have hpt : (pathT x.p).length ≤ 37 := by unfold pathT; rw [List.length_append, be_len]; omega
    have hcl := ctxT_len x.g
    have g1 : (x.k == 1) = false := by rw [hk]; rfl
    have g2 : (x.k == 2) = false := by rw [hk]; rfl
    have g3 : (x.k == 3) = false := by rw [hk]; rfl
    have g4 : (x.k == 4) = false := by rw [hk]; rfl
    have g5 : (x.k == 5) = false := by rw [hk]; rfl
    have g6 : (x.k == 6) = false := by rw [hk]; rfl
    have g7 : (x.k == 7) = false := by rw [hk]; rfl
    have g8 : (x.k == 8) = true := by rw [hk]; rfl
    refine fc_i TB_ok Tryz.func34 rfl (by kernel_rfl) ?_
    have hS := Sf.refl w
    repeat ((conv => whnf); first | (apply q_i; focus (intro w1 hS; (conv => whnf); first | exact ⟨rfl, rfl⟩ | ((refine ld_f hS 0 rfl rfl ?_); (conv => whnf); exact ⟨rfl, rfl⟩) | ((refine ldA_f hS 0 rfl rfl ?_); (conv => whnf); exact ⟨rfl, rfl⟩) | ((refine ldN_f hS 0 rfl (lb9 rfl) ?_); (conv => whnf); exact ⟨rfl, rfl⟩) | ((refine br_t (by assumption) ?_); (conv => whnf); exact ⟨rfl, rfl⟩) | ((refine br_f (by assumption) ?_); (conv => whnf); exact ⟨rfl, rfl⟩) | ((refine .mk ⟨by omega, by omega⟩ ?_); (conv => whnf); exact ⟨rfl, rfl⟩) | ((refine fc_m (hk8 _) ?_; rintro v w3 ⟨rfl, hS'⟩; replace hS := hS.call0 hS'); (conv => whnf); exact ⟨rfl, rfl⟩) | ((refine fc_m (rnw_c x.r (by have := ho.r; omega) 1 (by decide) _) ?_; rintro v w3 ⟨rfl, hS'⟩; replace hS := hS.call0 hS'); (conv => whnf); exact ⟨rfl, rfl⟩) | ((refine fc_m (rtext18_c x.p (by omega) _) ?_; rintro v w3 ⟨rfl, hS'⟩; replace hS := hS.call0 hS'); (conv => whnf); exact ⟨rfl, rfl⟩) | ((refine fc_m (rvec18_c x.g (fun j hj => ⟨(ho.g j hj).1, mayVB_le hm.2.2 j hj⟩) _) ?_; rintro v w3 ⟨rfl, hS'⟩; replace hS := hS.call0 hS'); (conv => whnf); exact ⟨rfl, rfl⟩) | ((refine .mk (by simp only [strY_append, strY_size, List.length_append, be_len]; omega) ?_); (conv => whnf); exact ⟨rfl, rfl⟩))) | (refine nw_f hS ?_; intro b w1 hS) | refine as_i hS ?_ | refine as_i (hS.subs (List.nil_sublist _) sb9) ?_ | refine as_i (hS.subs (List.Sublist.refl _) sb9) ?_ | refine bar_f hS ?_ | refine ld_f hS 0 rfl rfl ?_ | refine ldA_f hS 0 rfl rfl ?_ | (refine stN_f hS 0 rfl (lb9 rfl) rfl rfl ?_; (conv => whnf); intro w1 hS) | (refine stM_f hS 0 rfl (lb9 rfl) rfl ?_; (conv => whnf); intro w1 hS) | refine ldN_f hS 0 rfl (lb9 rfl) ?_ | refine br_t (by assumption) ?_ | refine br_f (by assumption) ?_ | refine .mk ⟨by omega, by omega⟩ ?_ | (refine fc_m (hk8 _) ?_; rintro v w3 ⟨rfl, hS'⟩; replace hS := hS.call0 hS') | (refine fc_m (rnw_c x.r (by have := ho.r; omega) 1 (by decide) _) ?_; rintro v w3 ⟨rfl, hS'⟩; replace hS := hS.call0 hS') | (refine fc_m (rtext18_c x.p (by omega) _) ?_; rintro v w3 ⟨rfl, hS'⟩; replace hS := hS.call0 hS') | (refine fc_m (rvec18_c x.g (fun j hj => ⟨(ho.g j hj).1, mayVB_le hm.2.2 j hj⟩) _) ?_; rintro v w3 ⟨rfl, hS'⟩; replace hS := hS.call0 hS') | refine .mk (by simp only [strY_append, strY_size, List.length_append, be_len]; omega) ?_ | (refine drawf TB_ok rfl (by kernel_rfl) (by kernel_rfl) hS (List.Sublist.refl _) (List.Sublist.refl _) ?_; intro w1 hS) | refine br_t (by assumption) ?_ | refine br_f (by assumption) ?_)
    refine ⟨?_, hS.nil⟩
    simp only [strY_append, List.append_assoc]
theorem rPut18_c (A : Option Addr) (c : Nat) (rs : List Rm) (ho : ∀ r ∈ rs, okR r.x ∧ fewR r.x) (hl : rs.length ≤ 1000000) (w : World) (hR : RdR w A rs) :
    Fc Tryz.prog 16 [.slice A rs.length c] w fun v w' => v = .tuple #[.string (strY (putR (rs.map Rm.x)).1), .int .i64 (putR (rs.map Rm.x)).2] ∧ St [] w w' [] := by
  refine fc_i TB_ok Tryz.func16 rfl (by kernel_rfl) ?_
  have hS := Sf.refl w
  repeat ((conv => whnf); first | (apply q_i; focus (intro w1 hS; (conv => whnf); first | exact ⟨rfl, rfl⟩)) | (refine nw_f hS ?_; intro b w1 hS) | refine as_i hS ?_ | refine as_i (hS.subs (List.nil_sublist _) sb9) ?_ | refine as_i (hS.subs (List.Sublist.refl _) sb9) ?_ | refine bar_f hS ?_ | (refine drawf TB_ok rfl (by kernel_rfl) (by kernel_rfl) hS (List.Sublist.refl _) (List.Sublist.refl _) ?_; intro w1 hS) | refine br_t (by assumption) ?_ | refine br_f (by assumption) ?_)
  refine loop_i TB_ok (fun i : Nat => [(5, .int .i64 i), (4, .string (strY (((rs.map Rm.x).take i).flatMap recT)))]) (fun i w' => i ≤ rs.length ∧ (∀ x ∈ (rs.map Rm.x).take i, checkR x = true) ∧ Sf [] w w' [] []) (fun i => rs.length - i) 0 rfl ⟨Nat.zero_le _, by simp, hS⟩ ?_
  rintro i us w2 ⟨hi, hall, hS⟩
  (conv => whnf)
  refine br_i (fun hb => ?_) (fun hb => ?_)
  · have hlt : i < rs.length := by have := of_decide_eq_true hb; omega
    obtain ⟨x0, off, rfl⟩ := hR.rd.form (flat_ne encRm_len (by omega) hlt)
    have hmem := List.getElem_mem hlt
    have hoi := ho _ hmem
    have hfl := flatT_len _ hall
    rw [List.length_take, List.length_map] at hfl
    have hst : ((rs.map Rm.x).take (i + 1)).flatMap recT = ((rs.map Rm.x).take i).flatMap recT ++ recT rs[i].x := by
      rw [List.take_succ_eq_append_getElem (by simpa using hlt), List.flatMap_append, List.getElem_map]
      simp
    generalize hacc : ((rs.map Rm.x).take i).flatMap recT = acc at *
    have hck := fun w' => rMay18_c rs[i].x hoi.1 hoi.2 rs[i].h rs[i].ms w'
    cases hc : checkR rs[i].x with
    | false =>
      rw [hc] at hck
      repeat ((conv => whnf); first | (apply q_i; focus (intro w1 hS; (conv => whnf); first | exact ⟨rfl, rfl⟩ | ((refine .mk ⟨by omega, by omega⟩ ?_; refine ix_i rfl ?_); (conv => whnf); exact ⟨rfl, rfl⟩) | ((refine ldN_el encRm_len (hR.rd.below hS.nil).at (i := i) hlt rfl rfl ?_); (conv => whnf); exact ⟨rfl, rfl⟩) | ((refine fc_m (hck _ ((hR.el _ hmem).below hS.nil)) ?_; rintro v w3 ⟨rfl, hS'⟩; replace hS := hS.call0 hS'); (conv => whnf); exact ⟨rfl, rfl⟩))) | (refine nw_f hS ?_; intro b w1 hS) | refine as_i hS ?_ | refine as_i (hS.subs (List.nil_sublist _) sb9) ?_ | refine as_i (hS.subs (List.Sublist.refl _) sb9) ?_ | refine bar_f hS ?_ | (refine .mk ⟨by omega, by omega⟩ ?_; refine ix_i rfl ?_) | refine ldN_el encRm_len (hR.rd.below hS.nil).at (i := i) hlt rfl rfl ?_ | (refine fc_m (hck _ ((hR.el _ hmem).below hS.nil)) ?_; rintro v w3 ⟨rfl, hS'⟩; replace hS := hS.call0 hS') | (refine drawf TB_ok rfl (by kernel_rfl) (by kernel_rfl) hS (List.Sublist.refl _) (List.Sublist.refl _) ?_; intro w1 hS) | refine br_t (by assumption) ?_ | refine br_f (by assumption) ?_)
      refine ⟨?_, hS.nil⟩
      rw [putR_no (i := i) (by simpa using hlt) (by simpa using hc)]
      rfl
    | true =>
      rw [hc] at hck
      have hrl := recT_len hc
      have htx := fun (w' : World) => rText18_c rs[i].x hoi.1 hc rs[i].h rs[i].ms w'
      repeat ((conv => whnf); first | (apply q_i; focus (intro w1 hS; (conv => whnf); first | exact ⟨rfl, rfl⟩ | ((refine .mk ⟨by omega, by omega⟩ ?_; refine ix_i rfl ?_); (conv => whnf); exact ⟨rfl, rfl⟩) | ((refine ldN_el encRm_len (hR.rd.below hS.nil).at (i := i) hlt rfl rfl ?_); (conv => whnf); exact ⟨rfl, rfl⟩) | ((refine fc_m (hck _ ((hR.el _ hmem).below hS.nil)) ?_; rintro v w3 ⟨rfl, hS'⟩; replace hS := hS.call0 hS'); (conv => whnf); exact ⟨rfl, rfl⟩) | ((refine fc_m (htx _ ((hR.el _ hmem).below hS.nil)) ?_; rintro v w3 ⟨rfl, hS'⟩; replace hS := hS.call0 hS'); (conv => whnf); exact ⟨rfl, rfl⟩) | ((refine .mk (by rw [strY_size, strY_size]; omega) ?_); (conv => whnf); exact ⟨rfl, rfl⟩))) | (refine nw_f hS ?_; intro b w1 hS) | refine as_i hS ?_ | refine as_i (hS.subs (List.nil_sublist _) sb9) ?_ | refine as_i (hS.subs (List.Sublist.refl _) sb9) ?_ | refine bar_f hS ?_ | (refine .mk ⟨by omega, by omega⟩ ?_; refine ix_i rfl ?_) | refine ldN_el encRm_len (hR.rd.below hS.nil).at (i := i) hlt rfl rfl ?_ | (refine fc_m (hck _ ((hR.el _ hmem).below hS.nil)) ?_; rintro v w3 ⟨rfl, hS'⟩; replace hS := hS.call0 hS') | (refine fc_m (htx _ ((hR.el _ hmem).below hS.nil)) ?_; rintro v w3 ⟨rfl, hS'⟩; replace hS := hS.call0 hS') | refine .mk (by rw [strY_size, strY_size]; omega) ?_ | (refine drawf TB_ok rfl (by kernel_rfl) (by kernel_rfl) hS (List.Sublist.refl _) (List.Sublist.refl _) ?_; intro w1 hS) | refine br_t (by assumption) ?_ | refine br_f (by assumption) ?_)
      refine ⟨rfl, i + 1, ?_, ⟨by omega, ?_, hS⟩, by omega⟩
      · rw [wi hlt (by omega), hst, ← strY_append]
        rfl
      · rw [List.take_succ_eq_append_getElem (by simpa using hlt), List.getElem_map]
        intro x hx
        rcases List.mem_append.1 hx with h | h
        · exact hall x h
        · obtain rfl := List.mem_singleton.1 h
          exact hc
  · have hge : i = rs.length := by have := of_decide_eq_false hb; omega
    subst hge
    rw [List.take_of_length_le (by simp)] at hall ⊢
    generalize hacc : (rs.map Rm.x).flatMap recT = acc
    repeat ((conv => whnf); first | (apply q_i; focus (intro w1 hS; (conv => whnf); first | exact ⟨rfl, rfl⟩)) | (refine nw_f hS ?_; intro b w1 hS) | refine as_i hS ?_ | refine as_i (hS.subs (List.nil_sublist _) sb9) ?_ | refine as_i (hS.subs (List.Sublist.refl _) sb9) ?_ | refine bar_f hS ?_ | (refine drawf TB_ok rfl (by kernel_rfl) (by kernel_rfl) hS (List.Sublist.refl _) (List.Sublist.refl _) ?_; intro w1 hS) | refine br_t (by assumption) ?_ | refine br_f (by assumption) ?_)
    exact ⟨by rw [putR_yes hall, hacc], hS.nil⟩
end Go.RV

set_option maxRecDepth 20000
set_option linter.unusedVariables false
set_option linter.unusedSimpArgs false
namespace Go.RV
open Go Go.Proofs Go.RowKit

/-- a copy of the siblings, wherever these blocks hold -/
def ThR (A : Option Addr) (ms : List Sm) (Lv : LM) : Prop := ∀ w'', Holds w'' Lv → Rd w'' A (flat encM ms)
theorem their18T_c (x : Rx) (h : Hd) (ms : List Sm) (hn : x.xs.length ≤ 1000000) (w : World) (hx : MemR w x h ms) :
    Fc Tryz.prog 17 [recV x h] w fun v w' => ∃ A c Lv, v = recV x ⟨A, c, h.B, h.e⟩ ∧ ThR A ms Lv ∧ St [] w w' Lv := their18_c x h ms w hx hn
theorem ThR.mem {x : Rx} {h : Hd} {ms : List Sm} {A : Option Addr} {c : Nat} {Lv F L : LM} {w w' : World} (t : ThR A ms Lv) (hx : MemR w x h ms) (hS : Sf [] w w' F L) (hs : ∀ y ∈ Lv, y ∈ F) : MemR w' x ⟨A, c, h.B, h.e⟩ ms :=
  ⟨hx.eq, ⟨t _ (hS.st.holds (Ls := Lv) (fun y hy => by simp [hs y hy])), fun m hm => (hx.l.el m hm).below hS.nil⟩, hx.v.below hS.nil⟩
theorem rd_left {w : World} {A : Option Addr} {xs ys : List Value} (h : Rd w A (xs ++ ys)) : Rd w A xs := by
  rcases h with h | ⟨b, off, e, h⟩
  · exact .inl (List.append_eq_nil_iff.1 h).1
  · exact .inr ⟨b, off, e, fun j v hj => h j v (by rw [List.getElem?_append_left (List.getElem?_eq_some_iff.1 hj).1]; exact hj)⟩
theorem rdr1 {w : World} {A : Option Addr} {x : Rx} {h : Hd} {ms : List Sm} (hR : Rd w A (flat encRm [⟨x, h, ms⟩])) (hx : MemR w x h ms) : RdR w A [⟨x, h, ms⟩] := ⟨hR, fun r hr => by
  obtain rfl := List.mem_singleton.1 hr
  exact hx⟩
theorem rdr2 {w : World} {A : Option Addr} {x y : Rx} {h k : Hd} {ms ns : List Sm} (hR : Rd w A (flat encRm [⟨x, h, ms⟩, ⟨y, k, ns⟩])) (hx : MemR w x h ms) (hy : MemR w y k ns) : RdR w A [⟨x, h, ms⟩, ⟨y, k, ns⟩] := ⟨hR, fun r hr => by
  rcases List.mem_cons.1 hr with rfl | hr
  · exact hx
  · obtain rfl := List.mem_singleton.1 hr
    exact hy⟩
theorem RdR.one {w : World} {b off : Nat} {r q : Rm} (h : RdR w (some ⟨b, off, none⟩) [r, q]) : RdR w (some ⟨b, off, none⟩) [r] :=
  ⟨rd_left (ys := encRm q ++ []) (by have := h.rd; rwa [show flat encRm [r, q] = flat encRm [r] ++ (encRm q ++ []) by simp [flat]] at this), fun y hy => h.el y (by simp_all)⟩
set_option maxHeartbeats 16000000 in
theorem recordPuts_c (x y : Rx) (ho : okR x) (hoy : okR y) (h k : Hd) (ms ns : List Sm) (hlx : x.xs.length ≤ 9223372036854775807) (hly : y.xs.length ≤ 9223372036854775807) (w : World) (hx : MemR w x h ms) (hy : MemR w y k ns) :
    Fc Tryz.prog 5 [recV x h, recV y k] w fun v w' => v = .bool true ∧ St [] w w' [] := by
  refine fc_i TB_ok Tryz.func5 rfl (by kernel_rfl) ?_
  have hS := Sf.refl w
  repeat ((conv => whnf); first | (apply q_i; focus (intro w1 hS; (conv => whnf); first | exact ⟨rfl, rfl⟩ | ((refine ld_f hS 0 rfl rfl ?_); (conv => whnf); exact ⟨rfl, rfl⟩) | ((refine ld_f hS 1 rfl rfl ?_); (conv => whnf); exact ⟨rfl, rfl⟩) | ((refine ldA_f hS 0 rfl rfl ?_); (conv => whnf); exact ⟨rfl, rfl⟩) | ((refine ldA_f hS 1 rfl rfl ?_); (conv => whnf); exact ⟨rfl, rfl⟩) | ((refine ldN_f hS 0 rfl (lb9 rfl) ?_); (conv => whnf); exact ⟨rfl, rfl⟩))) | (refine nw_f hS ?_; intro b w1 hS) | refine as_i hS ?_ | refine as_i (hS.subs (List.nil_sublist _) sb9) ?_ | refine as_i (hS.subs (List.Sublist.refl _) sb9) ?_ | refine bar_f hS ?_ | refine ld_f hS 0 rfl rfl ?_ | refine ld_f hS 1 rfl rfl ?_ | refine ldA_f hS 0 rfl rfl ?_ | refine ldA_f hS 1 rfl rfl ?_ | (refine stN_f hS 0 rfl (lb9 rfl) rfl rfl ?_; (conv => whnf); intro w1 hS) | (refine stN_f hS 1 rfl (lb9 rfl) rfl rfl ?_; (conv => whnf); intro w1 hS) | (refine stM_f hS 0 rfl (lb9 rfl) rfl ?_; (conv => whnf); intro w1 hS) | (refine stM_f hS 1 rfl (lb9 rfl) rfl ?_; (conv => whnf); intro w1 hS) | refine ldN_f hS 0 rfl (lb9 rfl) ?_ | refine br_t (by assumption) ?_ | refine br_f (by assumption) ?_)
  refine fc_m (few18_c x h ms _ (hx.below hS.nil) hlx) ?_
  rintro v w1 ⟨⟨q1, rfl, hq1⟩, hS'⟩
  replace hS := hS.call0 hS'
  cases q1 with
  | false =>
    repeat ((conv => whnf); first | (apply q_i; focus (intro w1 hS; (conv => whnf); first | exact ⟨rfl, rfl⟩ | ((refine ld_f hS 0 rfl rfl ?_); (conv => whnf); exact ⟨rfl, rfl⟩) | ((refine ld_f hS 1 rfl rfl ?_); (conv => whnf); exact ⟨rfl, rfl⟩) | ((refine ldA_f hS 0 rfl rfl ?_); (conv => whnf); exact ⟨rfl, rfl⟩) | ((refine ldA_f hS 1 rfl rfl ?_); (conv => whnf); exact ⟨rfl, rfl⟩) | ((refine fc_m (works18_c _) ?_; rintro v w3 ⟨rfl, hS'⟩; replace hS := hS.call0 hS'); (conv => whnf); exact ⟨rfl, rfl⟩))) | (refine nw_f hS ?_; intro b w1 hS) | refine as_i hS ?_ | refine as_i (hS.subs (List.nil_sublist _) sb9) ?_ | refine as_i (hS.subs (List.Sublist.refl _) sb9) ?_ | refine bar_f hS ?_ | refine ld_f hS 0 rfl rfl ?_ | refine ld_f hS 1 rfl rfl ?_ | refine ldA_f hS 0 rfl rfl ?_ | refine ldA_f hS 1 rfl rfl ?_ | (refine stN_f hS 0 rfl (lb9 rfl) rfl rfl ?_; (conv => whnf); intro w1 hS) | (refine stN_f hS 1 rfl (lb9 rfl) rfl rfl ?_; (conv => whnf); intro w1 hS) | (refine stM_f hS 0 rfl (lb9 rfl) rfl ?_; (conv => whnf); intro w1 hS) | (refine stM_f hS 1 rfl (lb9 rfl) rfl ?_; (conv => whnf); intro w1 hS) | (refine fc_m (works18_c _) ?_; rintro v w3 ⟨rfl, hS'⟩; replace hS := hS.call0 hS') | refine br_t (by assumption) ?_ | refine br_f (by assumption) ?_)
    exact ⟨rfl, hS.nil⟩
  | true =>
  have hzx := hq1 rfl
  clear hq1
  repeat ((conv => whnf); first | (apply q_i; focus (intro w1 hS; (conv => whnf); first | exact ⟨rfl, rfl⟩ | ((refine ld_f hS 0 rfl rfl ?_); (conv => whnf); exact ⟨rfl, rfl⟩) | ((refine ld_f hS 1 rfl rfl ?_); (conv => whnf); exact ⟨rfl, rfl⟩) | ((refine ldA_f hS 0 rfl rfl ?_); (conv => whnf); exact ⟨rfl, rfl⟩) | ((refine ldA_f hS 1 rfl rfl ?_); (conv => whnf); exact ⟨rfl, rfl⟩))) | (refine nw_f hS ?_; intro b w1 hS) | refine as_i hS ?_ | refine as_i (hS.subs (List.nil_sublist _) sb9) ?_ | refine as_i (hS.subs (List.Sublist.refl _) sb9) ?_ | refine bar_f hS ?_ | refine ld_f hS 0 rfl rfl ?_ | refine ld_f hS 1 rfl rfl ?_ | refine ldA_f hS 0 rfl rfl ?_ | refine ldA_f hS 1 rfl rfl ?_ | (refine stN_f hS 0 rfl (lb9 rfl) rfl rfl ?_; (conv => whnf); intro w1 hS) | (refine stN_f hS 1 rfl (lb9 rfl) rfl rfl ?_; (conv => whnf); intro w1 hS) | (refine stM_f hS 0 rfl (lb9 rfl) rfl ?_; (conv => whnf); intro w1 hS) | (refine stM_f hS 1 rfl (lb9 rfl) rfl ?_; (conv => whnf); intro w1 hS) | refine br_t (by assumption) ?_ | refine br_f (by assumption) ?_)
  refine fc_m (few18_c y k ns _ (hy.below hS.nil) hly) ?_
  rintro v w1 ⟨⟨q2, rfl, hq2⟩, hS'⟩
  replace hS := hS.call0 hS'
  cases q2 with
  | false =>
    repeat ((conv => whnf); first | (apply q_i; focus (intro w1 hS; (conv => whnf); first | exact ⟨rfl, rfl⟩ | ((refine ld_f hS 0 rfl rfl ?_); (conv => whnf); exact ⟨rfl, rfl⟩) | ((refine ld_f hS 1 rfl rfl ?_); (conv => whnf); exact ⟨rfl, rfl⟩) | ((refine ldA_f hS 0 rfl rfl ?_); (conv => whnf); exact ⟨rfl, rfl⟩) | ((refine ldA_f hS 1 rfl rfl ?_); (conv => whnf); exact ⟨rfl, rfl⟩) | ((refine fc_m (works18_c _) ?_; rintro v w3 ⟨rfl, hS'⟩; replace hS := hS.call0 hS'); (conv => whnf); exact ⟨rfl, rfl⟩))) | (refine nw_f hS ?_; intro b w1 hS) | refine as_i hS ?_ | refine as_i (hS.subs (List.nil_sublist _) sb9) ?_ | refine as_i (hS.subs (List.Sublist.refl _) sb9) ?_ | refine bar_f hS ?_ | refine ld_f hS 0 rfl rfl ?_ | refine ld_f hS 1 rfl rfl ?_ | refine ldA_f hS 0 rfl rfl ?_ | refine ldA_f hS 1 rfl rfl ?_ | (refine stN_f hS 0 rfl (lb9 rfl) rfl rfl ?_; (conv => whnf); intro w1 hS) | (refine stN_f hS 1 rfl (lb9 rfl) rfl rfl ?_; (conv => whnf); intro w1 hS) | (refine stM_f hS 0 rfl (lb9 rfl) rfl ?_; (conv => whnf); intro w1 hS) | (refine stM_f hS 1 rfl (lb9 rfl) rfl ?_; (conv => whnf); intro w1 hS) | (refine fc_m (works18_c _) ?_; rintro v w3 ⟨rfl, hS'⟩; replace hS := hS.call0 hS') | refine br_t (by assumption) ?_ | refine br_f (by assumption) ?_)
    exact ⟨rfl, hS.nil⟩
  | true =>
  have hzy := hq2 rfl
  clear hq2
  have h2 : ∀ r ∈ [(⟨x, h, ms⟩ : Rm), ⟨y, k, ns⟩], okR r.x ∧ szR r.x := fun r hr => by
    rcases List.mem_cons.1 hr with rfl | hr
    · exact ⟨ho, hzx.sz⟩
    · obtain rfl := List.mem_singleton.1 hr
      exact ⟨hoy, hzy.sz⟩
  have el2 : ∀ {w' : World}, St [] w w' [] → ∀ r ∈ [(⟨x, h, ms⟩ : Rm), ⟨y, k, ns⟩], MemR w' r.x r.h r.ms := fun hs r hr => by
    rcases List.mem_cons.1 hr with rfl | hr
    · exact hx.below hs
    · obtain rfl := List.mem_singleton.1 hr
      exact hy.below hs
  have hput : ∀ A c w', RdR w' A [⟨x, h, ms⟩, ⟨y, k, ns⟩] → Fc Tryz.prog 13 [.slice A 2 c] w' fun v w'' => v = .tuple #[.string (strY (putR [x, y]).1), .int .i64 (putR [x, y]).2] ∧ St [] w' w'' [] := fun A c w' hR => putR_c A c [⟨x, h, ms⟩, ⟨y, k, ns⟩] h2 (by simp) w' hR
  have hput1 : ∀ A c w', RdR w' A [⟨x, h, ms⟩] → Fc Tryz.prog 13 [.slice A 1 c] w' fun v w'' => v = .tuple #[.string (strY (putR [x]).1), .int .i64 (putR [x]).2] ∧ St [] w' w'' [] := fun A c w' hR => putR_c A c [⟨x, h, ms⟩] (fun r hr => h2 r (by simp_all)) (by simp) w' hR
  have hsz : ∀ A c w', RdR w' A [⟨x, h, ms⟩, ⟨y, k, ns⟩] → Fc Tryz.prog 19 [.slice A 2 c] w' fun v w'' => v = .int .i64 (putR [x, y]).1.length ∧ St [] w' w'' [] := fun A c w' hR => sizeR_c A c [⟨x, h, ms⟩, ⟨y, k, ns⟩] h2 (by simp) w' hR
  have hsz1 : ∀ A c w', RdR w' A [⟨x, h, ms⟩] → Fc Tryz.prog 19 [.slice A 1 c] w' fun v w'' => v = .int .i64 (putR [x]).1.length ∧ St [] w' w'' [] := fun A c w' hR => sizeR_c A c [⟨x, h, ms⟩] (fun r hr => h2 r (by simp_all)) (by simp) w' hR
  have hrput : ∀ A c h1 k1 w', RdR w' A [⟨x, h1, ms⟩, ⟨y, k1, ns⟩] → Fc Tryz.prog 16 [.slice A 2 c] w' fun v w'' => v = .tuple #[.string (strY (putR [x, y]).1), .int .i64 (putR [x, y]).2] ∧ St [] w' w'' [] := fun A c h1 k1 w' hR => rPut18_c A c [⟨x, h1, ms⟩, ⟨y, k1, ns⟩] (fun r hr => by
    rcases List.mem_cons.1 hr with rfl | hr
    · exact ⟨ho, hzx⟩
    · obtain rfl := List.mem_singleton.1 hr
      exact ⟨hoy, hzy⟩) (by simp) w' hR
  have hrput1 : ∀ A c h1 w', RdR w' A [⟨x, h1, ms⟩] → Fc Tryz.prog 16 [.slice A 1 c] w' fun v w'' => v = .tuple #[.string (strY (putR [x]).1), .int .i64 (putR [x]).2] ∧ St [] w' w'' [] := fun A c h1 w' hR => rPut18_c A c [⟨x, h1, ms⟩] (fun r hr => by
    obtain rfl := List.mem_singleton.1 hr
    exact ⟨ho, hzx⟩) (by simp) w' hR
  have hck := fun w' => check18_c x ho hzx.sz h ms w'
  have hmay := fun h1 w' => rMay18_c x ho hzx h1 ms w'
  have hbl := hzx.l
  have hbv := hzx.v
  have hbe := hzx.el
  have hcl := hzy.l
  have hsm := fun w' p q => sameR_c x y h k ms ns w' p q (by omega) (fun s hs => by have := hbe s hs; omega) (by omega)
  have hsx := fun w' p q => sameR_c x x h h ms ms w' p q (by omega) (fun s hs => by have := hbe s hs; omega) (by omega)
  rw [sameR_self] at hsx
  have hrs := fun h1 k1 w' p q => rSame18_c x y h1 k1 ms ns w' p q (by omega) (fun s hs => by have := hbe s hs; omega) (by omega)
  have htx := their18T_c x h ms (by omega)
  have hty := their18T_c y k ns (by omega)
  generalize putR [x, y] = z at *
  obtain ⟨zs, ze⟩ := z
  generalize putR [x] = z1 at *
  obtain ⟨ys, ye⟩ := z1
  simp only at hput hput1 hsz hsz1 hrput hrput1
  generalize checkR x = cc at *
  generalize sameR x y = ss at *
  have g1 : streq (strY zs) (strY zs) = true := by rw [streq_strY]; simp
  have g2 : (ze == ze) = true := by simp
  have g3 : streq (strY ys) (strY ys) = true := by rw [streq_strY]; simp
  have g4 : (ye == ye) = true := by simp
  have g5 : (((if cc = true then (0 : Int) else 4) == 0) == cc) = true := by cases cc <;> rfl
  have g6 : (ss == ss) = true := by cases ss <;> rfl
  have hzz := strY_size zs
  have hyz := strY_size ys
  have g7 : ((zs.length : Int) == ((strY zs).size : Int)) = true := by rw [hzz]; simp
  have g8 : ((ys.length : Int) == ((strY ys).size : Int)) = true := by rw [hyz]; simp
  repeat ((conv => whnf); first | (apply q_i; focus (intro w1 hS; (conv => whnf); first | exact ⟨rfl, rfl⟩ | ((refine ld_f hS 0 rfl rfl ?_); (conv => whnf); exact ⟨rfl, rfl⟩) | ((refine ld_f hS 1 rfl rfl ?_); (conv => whnf); exact ⟨rfl, rfl⟩) | ((refine ldA_f hS 0 rfl rfl ?_); (conv => whnf); exact ⟨rfl, rfl⟩) | ((refine ldA_f hS 1 rfl rfl ?_); (conv => whnf); exact ⟨rfl, rfl⟩))) | (refine nw_f hS ?_; intro b w1 hS) | refine as_i hS ?_ | refine as_i (hS.subs (List.nil_sublist _) sb9) ?_ | refine as_i (hS.subs (List.Sublist.refl _) sb9) ?_ | refine bar_f hS ?_ | refine ld_f hS 0 rfl rfl ?_ | refine ld_f hS 1 rfl rfl ?_ | refine ldA_f hS 0 rfl rfl ?_ | refine ldA_f hS 1 rfl rfl ?_ | (refine stN_f hS 0 rfl (lb9 rfl) rfl rfl ?_; (conv => whnf); intro w1 hS) | (refine stN_f hS 1 rfl (lb9 rfl) rfl rfl ?_; (conv => whnf); intro w1 hS) | (refine stM_f hS 0 rfl (lb9 rfl) rfl ?_; (conv => whnf); intro w1 hS) | (refine stM_f hS 1 rfl (lb9 rfl) rfl ?_; (conv => whnf); intro w1 hS) | refine br_t (by assumption) ?_ | refine br_f (by assumption) ?_)
  refine fc_m (hput _ _ _ ⟨hS.rd 0 rfl, el2 hS.nil⟩) ?_
  rintro v w3 ⟨rfl, hS'⟩
  replace hS := hS.call0 hS'
  repeat ((conv => whnf); first | (apply q_i; focus (intro w1 hS; (conv => whnf); first | exact ⟨rfl, rfl⟩ | ((refine ld_f hS 0 rfl rfl ?_); (conv => whnf); exact ⟨rfl, rfl⟩) | ((refine ld_f hS 1 rfl rfl ?_); (conv => whnf); exact ⟨rfl, rfl⟩) | ((refine ld_f hS 2 rfl rfl ?_); (conv => whnf); exact ⟨rfl, rfl⟩) | ((refine ldA_f hS 0 rfl rfl ?_); (conv => whnf); exact ⟨rfl, rfl⟩) | ((refine ldA_f hS 1 rfl rfl ?_); (conv => whnf); exact ⟨rfl, rfl⟩) | ((refine ldA_f hS 2 rfl rfl ?_); (conv => whnf); exact ⟨rfl, rfl⟩))) | (refine nw_f hS ?_; intro b w1 hS) | refine as_i hS ?_ | refine as_i (hS.subs (List.nil_sublist _) sb9) ?_ | refine as_i (hS.subs (List.Sublist.refl _) sb9) ?_ | refine bar_f hS ?_ | refine ld_f hS 0 rfl rfl ?_ | refine ld_f hS 1 rfl rfl ?_ | refine ld_f hS 2 rfl rfl ?_ | refine ldA_f hS 0 rfl rfl ?_ | refine ldA_f hS 1 rfl rfl ?_ | refine ldA_f hS 2 rfl rfl ?_ | (refine stN_f hS 0 rfl (lb9 rfl) rfl rfl ?_; (conv => whnf); intro w1 hS) | (refine stN_f hS 1 rfl (lb9 rfl) rfl rfl ?_; (conv => whnf); intro w1 hS) | (refine stN_f hS 2 rfl (lb9 rfl) rfl rfl ?_; (conv => whnf); intro w1 hS) | (refine stM_f hS 0 rfl (lb9 rfl) rfl ?_; (conv => whnf); intro w1 hS) | (refine stM_f hS 1 rfl (lb9 rfl) rfl ?_; (conv => whnf); intro w1 hS) | (refine stM_f hS 2 rfl (lb9 rfl) rfl ?_; (conv => whnf); intro w1 hS) | refine br_t (by assumption) ?_ | refine br_f (by assumption) ?_)
  refine drawf TB_ok rfl (by kernel_rfl) (by kernel_rfl) hS (List.nil_sublist _) (List.Sublist.refl _) ?_; intro w5 hS
  repeat' ((conv => whnf); first | refine And.intro ?_ ?_ | (apply q_i; focus (intro w1 hS; (conv => whnf); first | exact ⟨rfl, rfl⟩ | ((refine ld_f hS 0 rfl rfl ?_); (conv => whnf); exact ⟨rfl, rfl⟩) | ((refine ld_f hS 1 rfl rfl ?_); (conv => whnf); exact ⟨rfl, rfl⟩) | ((refine ld_f hS 2 rfl rfl ?_); (conv => whnf); exact ⟨rfl, rfl⟩) | ((refine ldA_f hS 0 rfl rfl ?_); (conv => whnf); exact ⟨rfl, rfl⟩) | ((refine ldA_f hS 1 rfl rfl ?_); (conv => whnf); exact ⟨rfl, rfl⟩) | ((refine ldA_f hS 2 rfl rfl ?_); (conv => whnf); exact ⟨rfl, rfl⟩) | ((refine fc_m (htx _ (hx.below hS.nil)) ?_; rintro v w7 ⟨A7, c7, Lv7, rfl, hv7, hS'⟩; replace hS := hS.callF hS'); (conv => whnf); exact ⟨rfl, rfl⟩) | ((refine fc_m (hty _ (hy.below hS.nil)) ?_; rintro v w8 ⟨A8, c8, Lv8, rfl, hv8, hS'⟩; replace hS := hS.callF hS'); (conv => whnf); exact ⟨rfl, rfl⟩) | ((refine fc_m (hrput _ _ ⟨A7, c7, h.B, h.e⟩ ⟨A8, c8, k.B, k.e⟩ _ (rdr2 (hS.rd 0 rfl) (hv7.mem hx hS (fun z hz => by simp [hz])) (hv8.mem hy hS (fun z hz => by simp [hz])))) ?_; rintro v w3 ⟨rfl, hS'⟩; replace hS := hS.call0 hS'); (conv => whnf); exact ⟨rfl, rfl⟩))) | (refine nw_f hS ?_; intro b w1 hS) | refine as_i hS ?_ | refine as_i (hS.subs (List.nil_sublist _) sb9) ?_ | refine as_i (hS.subs (List.Sublist.refl _) sb9) ?_ | refine bar_f hS ?_ | refine ld_f hS 0 rfl rfl ?_ | refine ld_f hS 1 rfl rfl ?_ | refine ld_f hS 2 rfl rfl ?_ | refine ldA_f hS 0 rfl rfl ?_ | refine ldA_f hS 1 rfl rfl ?_ | refine ldA_f hS 2 rfl rfl ?_ | (refine stN_f hS 0 rfl (lb9 rfl) rfl rfl ?_; (conv => whnf); intro w1 hS) | (refine stN_f hS 1 rfl (lb9 rfl) rfl rfl ?_; (conv => whnf); intro w1 hS) | (refine stN_f hS 2 rfl (lb9 rfl) rfl rfl ?_; (conv => whnf); intro w1 hS) | (refine stM_f hS 0 rfl (lb9 rfl) rfl ?_; (conv => whnf); intro w1 hS) | (refine stM_f hS 1 rfl (lb9 rfl) rfl ?_; (conv => whnf); intro w1 hS) | (refine stM_f hS 2 rfl (lb9 rfl) rfl ?_; (conv => whnf); intro w1 hS) | (refine fc_m (htx _ (hx.below hS.nil)) ?_; rintro v w7 ⟨A7, c7, Lv7, rfl, hv7, hS'⟩; replace hS := hS.callF hS') | (refine fc_m (hty _ (hy.below hS.nil)) ?_; rintro v w8 ⟨A8, c8, Lv8, rfl, hv8, hS'⟩; replace hS := hS.callF hS') | (refine fc_m (hrput _ _ ⟨A7, c7, h.B, h.e⟩ ⟨A8, c8, k.B, k.e⟩ _ (rdr2 (hS.rd 0 rfl) (hv7.mem hx hS (fun z hz => by simp [hz])) (hv8.mem hy hS (fun z hz => by simp [hz])))) ?_; rintro v w3 ⟨rfl, hS'⟩; replace hS := hS.call0 hS') | (refine drawf TB_ok rfl (by kernel_rfl) (by kernel_rfl) hS (List.Sublist.refl _) (List.Sublist.refl _) ?_; intro w1 hS) | refine br_t (by assumption) ?_ | refine br_f (by assumption) ?_)
  replace hS : Sf [] w _ [] [_, _, _] := hS.subs (List.nil_sublist _) (.cons _ (.refl _))
  repeat ((conv => whnf); first | (apply q_i; focus (intro w1 hS; (conv => whnf); first | exact ⟨rfl, rfl⟩ | ((refine ld_f hS 0 rfl rfl ?_); (conv => whnf); exact ⟨rfl, rfl⟩) | ((refine ld_f hS 1 rfl rfl ?_); (conv => whnf); exact ⟨rfl, rfl⟩) | ((refine ld_f hS 2 rfl rfl ?_); (conv => whnf); exact ⟨rfl, rfl⟩) | ((refine ldA_f hS 0 rfl rfl ?_); (conv => whnf); exact ⟨rfl, rfl⟩) | ((refine ldA_f hS 1 rfl rfl ?_); (conv => whnf); exact ⟨rfl, rfl⟩) | ((refine ldA_f hS 2 rfl rfl ?_); (conv => whnf); exact ⟨rfl, rfl⟩) | ((refine .mk ⟨by omega, by omega⟩ ?_); (conv => whnf); exact ⟨rfl, rfl⟩))) | (refine nw_f hS ?_; intro b w1 hS) | refine as_i hS ?_ | refine as_i (hS.subs (List.nil_sublist _) sb9) ?_ | refine as_i (hS.subs (List.Sublist.refl _) sb9) ?_ | refine bar_f hS ?_ | refine ld_f hS 0 rfl rfl ?_ | refine ld_f hS 1 rfl rfl ?_ | refine ld_f hS 2 rfl rfl ?_ | refine ldA_f hS 0 rfl rfl ?_ | refine ldA_f hS 1 rfl rfl ?_ | refine ldA_f hS 2 rfl rfl ?_ | (refine stN_f hS 0 rfl (lb9 rfl) rfl rfl ?_; (conv => whnf); intro w1 hS) | (refine stN_f hS 1 rfl (lb9 rfl) rfl rfl ?_; (conv => whnf); intro w1 hS) | (refine stN_f hS 2 rfl (lb9 rfl) rfl rfl ?_; (conv => whnf); intro w1 hS) | (refine stM_f hS 0 rfl (lb9 rfl) rfl ?_; (conv => whnf); intro w1 hS) | (refine stM_f hS 1 rfl (lb9 rfl) rfl ?_; (conv => whnf); intro w1 hS) | (refine stM_f hS 2 rfl (lb9 rfl) rfl ?_; (conv => whnf); intro w1 hS) | refine .mk ⟨by omega, by omega⟩ ?_ | refine br_t (by assumption) ?_ | refine br_f (by assumption) ?_)
  refine fc_m (hput1 _ _ _ (RdR.one (rdr2 (hS.rd 0 rfl) (hx.below hS.nil) (hy.below hS.nil)))) ?_
  rintro v w6 ⟨rfl, hS'⟩
  replace hS := hS.call0 hS'
  repeat ((conv => whnf); first | (apply q_i; focus (intro w1 hS; (conv => whnf); first | exact ⟨rfl, rfl⟩ | ((refine ld_f hS 0 rfl rfl ?_); (conv => whnf); exact ⟨rfl, rfl⟩) | ((refine ld_f hS 1 rfl rfl ?_); (conv => whnf); exact ⟨rfl, rfl⟩) | ((refine ld_f hS 2 rfl rfl ?_); (conv => whnf); exact ⟨rfl, rfl⟩) | ((refine ldA_f hS 0 rfl rfl ?_); (conv => whnf); exact ⟨rfl, rfl⟩) | ((refine ldA_f hS 1 rfl rfl ?_); (conv => whnf); exact ⟨rfl, rfl⟩) | ((refine ldA_f hS 2 rfl rfl ?_); (conv => whnf); exact ⟨rfl, rfl⟩))) | (refine nw_f hS ?_; intro b w1 hS) | refine as_i hS ?_ | refine as_i (hS.subs (List.nil_sublist _) sb9) ?_ | refine as_i (hS.subs (List.Sublist.refl _) sb9) ?_ | refine bar_f hS ?_ | refine ld_f hS 0 rfl rfl ?_ | refine ld_f hS 1 rfl rfl ?_ | refine ld_f hS 2 rfl rfl ?_ | refine ldA_f hS 0 rfl rfl ?_ | refine ldA_f hS 1 rfl rfl ?_ | refine ldA_f hS 2 rfl rfl ?_ | (refine stN_f hS 0 rfl (lb9 rfl) rfl rfl ?_; (conv => whnf); intro w1 hS) | (refine stN_f hS 1 rfl (lb9 rfl) rfl rfl ?_; (conv => whnf); intro w1 hS) | (refine stN_f hS 2 rfl (lb9 rfl) rfl rfl ?_; (conv => whnf); intro w1 hS) | (refine stM_f hS 0 rfl (lb9 rfl) rfl ?_; (conv => whnf); intro w1 hS) | (refine stM_f hS 1 rfl (lb9 rfl) rfl ?_; (conv => whnf); intro w1 hS) | (refine stM_f hS 2 rfl (lb9 rfl) rfl ?_; (conv => whnf); intro w1 hS) | refine br_t (by assumption) ?_ | refine br_f (by assumption) ?_)
  refine fc_m (htx _ (hx.below hS.nil)) ?_
  rintro v w7 ⟨A9, c9, Lv9, rfl, hv9, hS'⟩
  replace hS := hS.callF hS'
  repeat ((conv => whnf); first | (apply q_i; focus (intro w1 hS; (conv => whnf); first | exact ⟨rfl, rfl⟩ | ((refine ld_f hS 0 rfl rfl ?_); (conv => whnf); exact ⟨rfl, rfl⟩) | ((refine ld_f hS 1 rfl rfl ?_); (conv => whnf); exact ⟨rfl, rfl⟩) | ((refine ld_f hS 2 rfl rfl ?_); (conv => whnf); exact ⟨rfl, rfl⟩) | ((refine ldA_f hS 0 rfl rfl ?_); (conv => whnf); exact ⟨rfl, rfl⟩) | ((refine ldA_f hS 1 rfl rfl ?_); (conv => whnf); exact ⟨rfl, rfl⟩) | ((refine ldA_f hS 2 rfl rfl ?_); (conv => whnf); exact ⟨rfl, rfl⟩))) | (refine nw_f hS ?_; intro b w1 hS) | refine as_i hS ?_ | refine as_i (hS.subs (List.nil_sublist _) sb9) ?_ | refine as_i (hS.subs (List.Sublist.refl _) sb9) ?_ | refine bar_f hS ?_ | refine ld_f hS 0 rfl rfl ?_ | refine ld_f hS 1 rfl rfl ?_ | refine ld_f hS 2 rfl rfl ?_ | refine ldA_f hS 0 rfl rfl ?_ | refine ldA_f hS 1 rfl rfl ?_ | refine ldA_f hS 2 rfl rfl ?_ | (refine stN_f hS 0 rfl (lb9 rfl) rfl rfl ?_; (conv => whnf); intro w1 hS) | (refine stN_f hS 1 rfl (lb9 rfl) rfl rfl ?_; (conv => whnf); intro w1 hS) | (refine stN_f hS 2 rfl (lb9 rfl) rfl rfl ?_; (conv => whnf); intro w1 hS) | (refine stM_f hS 0 rfl (lb9 rfl) rfl ?_; (conv => whnf); intro w1 hS) | (refine stM_f hS 1 rfl (lb9 rfl) rfl ?_; (conv => whnf); intro w1 hS) | (refine stM_f hS 2 rfl (lb9 rfl) rfl ?_; (conv => whnf); intro w1 hS) | refine br_t (by assumption) ?_ | refine br_f (by assumption) ?_)
  refine fc_m (hrput1 _ _ ⟨A9, c9, h.B, h.e⟩ _ (rdr1 (hS.rd 0 rfl) (hv9.mem hx hS (fun z hz => by simp [hz])))) ?_
  rintro v w8 ⟨rfl, hS'⟩
  replace hS := hS.call0 hS'
  replace hS : Sf [] w _ [] [_, _, _] := hS.subs (List.nil_sublist _) (.cons _ (.refl _))
  repeat ((conv => whnf); first | (apply q_i; focus (intro w1 hS; (conv => whnf); first | exact ⟨rfl, rfl⟩ | ((refine ld_f hS 0 rfl rfl ?_); (conv => whnf); exact ⟨rfl, rfl⟩) | ((refine ld_f hS 1 rfl rfl ?_); (conv => whnf); exact ⟨rfl, rfl⟩) | ((refine ld_f hS 2 rfl rfl ?_); (conv => whnf); exact ⟨rfl, rfl⟩) | ((refine ldA_f hS 0 rfl rfl ?_); (conv => whnf); exact ⟨rfl, rfl⟩) | ((refine ldA_f hS 1 rfl rfl ?_); (conv => whnf); exact ⟨rfl, rfl⟩) | ((refine ldA_f hS 2 rfl rfl ?_); (conv => whnf); exact ⟨rfl, rfl⟩))) | (refine nw_f hS ?_; intro b w1 hS) | refine as_i hS ?_ | refine as_i (hS.subs (List.nil_sublist _) sb9) ?_ | refine as_i (hS.subs (List.Sublist.refl _) sb9) ?_ | refine bar_f hS ?_ | refine ld_f hS 0 rfl rfl ?_ | refine ld_f hS 1 rfl rfl ?_ | refine ld_f hS 2 rfl rfl ?_ | refine ldA_f hS 0 rfl rfl ?_ | refine ldA_f hS 1 rfl rfl ?_ | refine ldA_f hS 2 rfl rfl ?_ | (refine stN_f hS 0 rfl (lb9 rfl) rfl rfl ?_; (conv => whnf); intro w1 hS) | (refine stN_f hS 1 rfl (lb9 rfl) rfl rfl ?_; (conv => whnf); intro w1 hS) | (refine stN_f hS 2 rfl (lb9 rfl) rfl rfl ?_; (conv => whnf); intro w1 hS) | (refine stM_f hS 0 rfl (lb9 rfl) rfl ?_; (conv => whnf); intro w1 hS) | (refine stM_f hS 1 rfl (lb9 rfl) rfl ?_; (conv => whnf); intro w1 hS) | (refine stM_f hS 2 rfl (lb9 rfl) rfl ?_; (conv => whnf); intro w1 hS) | refine br_t (by assumption) ?_ | refine br_f (by assumption) ?_)
  refine drawf TB_ok rfl (by kernel_rfl) (by kernel_rfl) hS (List.nil_sublist _) (List.Sublist.refl _) ?_; intro w9 hS
  repeat' ((conv => whnf); first | refine And.intro ?_ ?_ | (apply q_i; focus (intro w1 hS; (conv => whnf); first | exact ⟨rfl, rfl⟩ | ((refine ld_f hS 0 rfl rfl ?_); (conv => whnf); exact ⟨rfl, rfl⟩) | ((refine ld_f hS 1 rfl rfl ?_); (conv => whnf); exact ⟨rfl, rfl⟩) | ((refine ld_f hS 2 rfl rfl ?_); (conv => whnf); exact ⟨rfl, rfl⟩) | ((refine ldA_f hS 0 rfl rfl ?_); (conv => whnf); exact ⟨rfl, rfl⟩) | ((refine ldA_f hS 1 rfl rfl ?_); (conv => whnf); exact ⟨rfl, rfl⟩) | ((refine ldA_f hS 2 rfl rfl ?_); (conv => whnf); exact ⟨rfl, rfl⟩) | ((refine as_i (hS.subs (List.sublist_append_right _ _) (List.Sublist.refl _)) ?_); (conv => whnf); exact ⟨rfl, rfl⟩) | ((refine as_i (hS.subs ((List.sublist_append_right _ _).trans (List.sublist_append_right _ _)) (List.Sublist.refl _)) ?_); (conv => whnf); exact ⟨rfl, rfl⟩) | ((refine as_i (hS.subs ((List.sublist_append_right _ _).trans ((List.sublist_append_right _ _).trans (List.sublist_append_right _ _))) (List.Sublist.refl _)) ?_); (conv => whnf); exact ⟨rfl, rfl⟩) | ((refine .mk ⟨by omega, by omega⟩ ?_); (conv => whnf); exact ⟨rfl, rfl⟩) | ((refine fc_m (hck _ (hx.below hS.nil)) ?_; rintro v w3 ⟨rfl, hS'⟩; replace hS := hS.call0 hS'); (conv => whnf); exact ⟨rfl, rfl⟩) | ((refine fc_m (hmay _ _ (ThR.mem (by assumption) hx hS (fun z hz => by simp [hz]))) ?_; rintro v w3 ⟨rfl, hS'⟩; replace hS := hS.call0 hS'); (conv => whnf); exact ⟨rfl, rfl⟩) | ((refine fc_m (hsz _ _ _ (rdr2 (hS.rd 0 rfl) (hx.below hS.nil) (hy.below hS.nil))) ?_; rintro v w3 ⟨rfl, hS'⟩; replace hS := hS.call0 hS'); (conv => whnf); exact ⟨rfl, rfl⟩) | ((refine fc_m (hsz1 _ _ _ (RdR.one (rdr2 (hS.rd 0 rfl) (hx.below hS.nil) (hy.below hS.nil)))) ?_; rintro v w3 ⟨rfl, hS'⟩; replace hS := hS.call0 hS'); (conv => whnf); exact ⟨rfl, rfl⟩) | ((refine fc_m (hsm _ (hx.below hS.nil) (hy.below hS.nil)) ?_; rintro v w3 ⟨rfl, hS'⟩; replace hS := hS.call0 hS'); (conv => whnf); exact ⟨rfl, rfl⟩) | ((refine fc_m (hrs _ _ _ (ThR.mem (by assumption) hx hS (fun z hz => by simp [hz])) (ThR.mem (by assumption) hy hS (fun z hz => by simp [hz]))) ?_; rintro v w3 ⟨rfl, hS'⟩; replace hS := hS.call0 hS'); (conv => whnf); exact ⟨rfl, rfl⟩) | ((refine fc_m (hsx _ (hx.below hS.nil) (hx.below hS.nil)) ?_; rintro v w3 ⟨rfl, hS'⟩; replace hS := hS.call0 hS'); (conv => whnf); exact ⟨rfl, rfl⟩) | ((refine fc_m (works18_c _) ?_; rintro v w3 ⟨rfl, hS'⟩; replace hS := hS.call0 hS'); (conv => whnf); exact ⟨rfl, rfl⟩) | ((refine fc_m (htx _ (hx.below hS.nil)) ?_; rintro v w7 ⟨A7, c7, Lv7, rfl, hv7, hS'⟩; replace hS := hS.callF hS'); (conv => whnf); exact ⟨rfl, rfl⟩) | ((refine fc_m (hty _ (hy.below hS.nil)) ?_; rintro v w8 ⟨A8, c8, Lv8, rfl, hv8, hS'⟩; replace hS := hS.callF hS'); (conv => whnf); exact ⟨rfl, rfl⟩))) | (refine nw_f hS ?_; intro b w1 hS) | refine as_i hS ?_ | refine as_i (hS.subs (List.nil_sublist _) sb9) ?_ | refine as_i (hS.subs (List.Sublist.refl _) sb9) ?_ | refine bar_f hS ?_ | refine ld_f hS 0 rfl rfl ?_ | refine ld_f hS 1 rfl rfl ?_ | refine ld_f hS 2 rfl rfl ?_ | refine ldA_f hS 0 rfl rfl ?_ | refine ldA_f hS 1 rfl rfl ?_ | refine ldA_f hS 2 rfl rfl ?_ | (refine stN_f hS 0 rfl (lb9 rfl) rfl rfl ?_; (conv => whnf); intro w1 hS) | (refine stN_f hS 1 rfl (lb9 rfl) rfl rfl ?_; (conv => whnf); intro w1 hS) | (refine stN_f hS 2 rfl (lb9 rfl) rfl rfl ?_; (conv => whnf); intro w1 hS) | (refine stM_f hS 0 rfl (lb9 rfl) rfl ?_; (conv => whnf); intro w1 hS) | (refine stM_f hS 1 rfl (lb9 rfl) rfl ?_; (conv => whnf); intro w1 hS) | (refine stM_f hS 2 rfl (lb9 rfl) rfl ?_; (conv => whnf); intro w1 hS) | refine as_i (hS.subs (List.sublist_append_right _ _) (List.Sublist.refl _)) ?_ | (refine as_i (hS.subs ((List.sublist_append_right _ _).trans (List.sublist_append_right _ _)) (List.Sublist.refl _)) ?_) | (refine as_i (hS.subs ((List.sublist_append_right _ _).trans ((List.sublist_append_right _ _).trans (List.sublist_append_right _ _))) (List.Sublist.refl _)) ?_) | refine .mk ⟨by omega, by omega⟩ ?_ | (refine fc_m (hck _ (hx.below hS.nil)) ?_; rintro v w3 ⟨rfl, hS'⟩; replace hS := hS.call0 hS') | (refine fc_m (hmay _ _ (ThR.mem (by assumption) hx hS (fun z hz => by simp [hz]))) ?_; rintro v w3 ⟨rfl, hS'⟩; replace hS := hS.call0 hS') | (refine fc_m (hsz _ _ _ (rdr2 (hS.rd 0 rfl) (hx.below hS.nil) (hy.below hS.nil))) ?_; rintro v w3 ⟨rfl, hS'⟩; replace hS := hS.call0 hS') | (refine fc_m (hsz1 _ _ _ (RdR.one (rdr2 (hS.rd 0 rfl) (hx.below hS.nil) (hy.below hS.nil)))) ?_; rintro v w3 ⟨rfl, hS'⟩; replace hS := hS.call0 hS') | (refine fc_m (hsm _ (hx.below hS.nil) (hy.below hS.nil)) ?_; rintro v w3 ⟨rfl, hS'⟩; replace hS := hS.call0 hS') | (refine fc_m (hrs _ _ _ (ThR.mem (by assumption) hx hS (fun z hz => by simp [hz])) (ThR.mem (by assumption) hy hS (fun z hz => by simp [hz]))) ?_; rintro v w3 ⟨rfl, hS'⟩; replace hS := hS.call0 hS') | (refine fc_m (hsx _ (hx.below hS.nil) (hx.below hS.nil)) ?_; rintro v w3 ⟨rfl, hS'⟩; replace hS := hS.call0 hS') | (refine fc_m (works18_c _) ?_; rintro v w3 ⟨rfl, hS'⟩; replace hS := hS.call0 hS') | (refine fc_m (htx _ (hx.below hS.nil)) ?_; rintro v w7 ⟨A7, c7, Lv7, rfl, hv7, hS'⟩; replace hS := hS.callF hS') | (refine fc_m (hty _ (hy.below hS.nil)) ?_; rintro v w8 ⟨A8, c8, Lv8, rfl, hv8, hS'⟩; replace hS := hS.callF hS') | (refine drawf TB_ok rfl (by kernel_rfl) (by kernel_rfl) hS (List.Sublist.refl _) (List.Sublist.refl _) ?_; intro w1 hS) | refine br_t (by assumption) ?_ | refine br_f (by assumption) ?_)
  all_goals first | exact rfl | exact hS.nil
end Go.RV

set_option linter.unusedVariables false
set_option maxRecDepth 20000
namespace Go.RV
open Go Go.Proofs Go.ChangeShapes Go.WideShapes Go.RowKit
theorem strY_dr (s : ByteArray) : strY s.data.toList = s := by cases s; simp [strY]
theorem wfr {k : IntKind} {n : Int} (h : (Lit.int k n).wf = true) : k.min ≤ n ∧ n ≤ k.max := by
  have h1 : (decide (k.min ≤ n) && decide (n ≤ k.max)) = true := h
  simp only [Bool.and_eq_true, decide_eq_true_eq] at h1
  exact h1
theorem cells5r {cs : List Value} (h : cs.length = 5) : ∃ a b c d e, cs = [a, b, c, d, e] := by
  match cs, h with
  | [a, b, c, d, e], _ => exact ⟨a, b, c, d, e, rfl⟩
theorem cells36 {cs : List Value} (h : cs.length = 36) : ∃ a0 a1 a2 a3 a4 a5 a6 a7 a8 f0 f1 f2 f3 f4 f5 f6 f7 l b0 b1 b2 b3 b4 b5 g0 g1 g2 g3 g4 g5 g6 g7 c0 c1 c2 c3,
    cs = [a0, a1, a2, a3, a4, a5, a6, a7, a8, f0, f1, f2, f3, f4, f5, f6, f7, l, b0, b1, b2, b3, b4, b5, g0, g1, g2, g3, g4, g5, g6, g7, c0, c1, c2, c3] := by
  match cs, h with
  | a0 :: a1 :: a2 :: a3 :: a4 :: a5 :: a6 :: a7 :: a8 :: f0 :: f1 :: f2 :: f3 :: f4 :: f5 :: f6 :: f7 :: l :: b0 :: b1 :: b2 :: b3 :: b4 :: b5 :: g0 :: g1 :: g2 :: g3 :: g4 :: g5 :: g6 :: g7 :: c0 :: c1 :: c2 :: c3 :: [], _ =>
    exact ⟨a0, a1, a2, a3, a4, a5, a6, a7, a8, f0, f1, f2, f3, f4, f5, f6, f7, l, b0, b1, b2, b3, b4, b5, g0, g1, g2, g3, g4, g5, g6, g7, c0, c1, c2, c3, rfl⟩
def vec8r (a b c d e f g h : Int) : Nat → Int
  | 0 => a
  | 1 => b
  | 2 => c
  | 3 => d
  | 4 => e
  | 5 => f
  | 6 => g
  | 7 => h
  | _ => 0
theorem vec8r_ok {a b c d e f g h : Int} (ha : 0 ≤ a ∧ a ≤ 4294967295) (hb : 0 ≤ b ∧ b ≤ 4294967295) (hc : 0 ≤ c ∧ c ≤ 4294967295) (hd : 0 ≤ d ∧ d ≤ 4294967295) (he : 0 ≤ e ∧ e ≤ 4294967295) (hf : 0 ≤ f ∧ f ≤ 4294967295) (hg : 0 ≤ g ∧ g ≤ 4294967295) (hh : 0 ≤ h ∧ h ≤ 4294967295) :
    ∀ j, j < 8 → 0 ≤ vec8r a b c d e f g h j ∧ vec8r a b c d e f g h j ≤ 4294967295 := fun j hj => by
  rcases lt8 hj with rfl | rfl | rfl | rfl | rfl | rfl | rfl | rfl
  · exact ha
  · exact hb
  · exact hc
  · exact hd
  · exact he
  · exact hf
  · exact hg
  · exact hh
instance : Inhabited Sm := ⟨⟨⟨0, 0, zeroVa⟩, none, 0⟩⟩
section
variable {W w : World} {r : Reach} {b0 : Nat} {v : Value}
variable {H : Type} {en : TypeId × Value → H} {base : Nat} {spare : Nat → Bool} {held : Bool} {d : DataW H} {ps : List MemPlace}
/-- numbers in memory, wherever the slice itself lies -/
theorem open_nums {n : Nat} {cs : List Value} {x : DataW H × List MemPlace} (h : DataW.trod en Tryz.prog w base spare held n 41 cs = some x) :
    ∃ (A : Option Addr) (c : Nat) (ks : List Int), cs = [.slice A ks.length c] ∧ ks.length ≤ c ∧ c ≤ maxLen ∧ Rd w A (flat encU ks) ∧ (∀ k ∈ ks, 0 ≤ k ∧ k ≤ 4294967295) := by
  rcases Go.Deep.open_slice1 Tryz.underlying41 (by kernel_rfl) h with ⟨rfl, _⟩ | ⟨a, len, cap, m, n', V, D, Pl, rfl, hb, hl, hm, hmm, _, hx⟩
  · exact ⟨none, 0, [], rfl, Nat.le_refl _, Nat.zero_le _, .inl rfl, by simp⟩
  · have hlm : len ≤ m := by rw [hmm]; split <;> omega
    have each : ∀ i, i < len → ∃ k : Int, V i = .int .u32 k ∧ 0 ≤ k ∧ k ≤ 4294967295 := fun i hi => by
      obtain ⟨i, e0, _, hi⟩ := DataW.trod_int Tryz.underlying32 (hx i (by omega)).2
      exact ⟨i, by simpa using e0, wfr hi⟩
    obtain ⟨q, hq⟩ := Go.Deep.choose_lt each
    refine ⟨some a, cap, (List.range len).map q, by simp, by simpa using hl, hm, ?_, ?_⟩
    · rcases Nat.eq_zero_or_pos len with rfl | hp
      · exact .inl rfl
      · obtain ⟨ab, ao, sp⟩ := a
        have hspot : sp = none := by simpa [Addr.add] using World.cell?_spot (hx 0 (by omega)).1
        subst hspot
        refine .inr ⟨ab, ao, rfl, fun j v hj => ?_⟩
        have hjl : j < len := by
          have := (List.getElem?_eq_some_iff.1 hj).1
          rw [flat_length encU_len] at this
          simpa using this
        have e := flat_get encU_len ((List.range len).map q) j (by simpa using hjl) 0 (by decide)
        rw [Nat.mul_one, Nat.add_zero] at e
        rw [e] at hj
        have h1 := (hx j (by omega)).1
        rw [(hq j hjl).1, add_none] at h1
        rw [h1]
        simpa [encU] using hj
    · intro k hk
      obtain ⟨i, hi, rfl⟩ := List.mem_map.1 hk
      exact (hq i (by simpa using hi)).2
theorem open_sibsM (hv : Value.okWide Tryz.prog w r b0 38 v) (h : DataW.Trod en Tryz.prog w base spare held 38 v d ps) :
    ∃ (A : Option Addr) (c : Nat) (ms : List Sm), v = .slice A ms.length c ∧ ms.length ≤ c ∧ c ≤ maxLen ∧ Rd w A (flat encM ms) ∧ (∀ m ∈ ms, okSv m.s ∧ Rd w m.A (flat encU m.s.v.ks)) ∧ (A = none → c = 0) := by
  refine open_list Tryz.underlying38 (sz := 5) (by kernel_rfl) (by decide) encM_len ?_ hv h
  intro n cs x hx
  obtain ⟨y0, y1, m, _, hl, h0, h1⟩ := trod_struct2 Tryz.underlying94 hx
  have hl5 : cs.length = 5 := hl.trans (by kernel_rfl)
  obtain ⟨p, q, s, u, o, rfl⟩ := cells5r hl5
  have c1 : Tryz.prog.cellsOf 92 = 2 := by kernel_rfl
  have c3 : Tryz.prog.cellsOf 5 = 1 := by kernel_rfl
  have c4 : Tryz.prog.cellsOf 32 = 1 := by kernel_rfl
  have c5 : Tryz.prog.cellsOf 43 = 3 := by kernel_rfl
  have c6 : Tryz.prog.cellsOf 4 = 1 := by kernel_rfl
  have c7 : Tryz.prog.cellsOf 3 = 1 := by kernel_rfl
  have c8 : Tryz.prog.cellsOf 41 = 1 := by kernel_rfl
  simp [c1] at h0
  simp [c5] at h1
  obtain ⟨z0, z1, m2, _, _, g0, g1⟩ := trod_struct2 Tryz.underlying92 h0
  simp [c3] at g0
  simp [c4] at g1
  obtain ⟨u0, u1, u2, m3, _, _, k0, k1, k2⟩ := Go.Deep.trod_struct3 Tryz.underlying43 h1
  simp [c6] at k0
  simp [c7] at k1
  simp [c8] at k2
  obtain ⟨i, e0, _, hi⟩ := DataW.trod_int Tryz.underlying5 g0
  obtain ⟨k, e1, _, hk⟩ := DataW.trod_int Tryz.underlying32 g1
  obtain ⟨bb, e2, _⟩ := DataW.trod_bool Tryz.underlying4 k0
  obtain ⟨j, e3, _, hj⟩ := DataW.trod_int Tryz.underlying3 k1
  obtain ⟨A, c, ks, e4, _, _, hR, hks⟩ := open_nums k2
  cases e0; cases e1; cases e2; cases e3; cases e4
  exact ⟨⟨⟨i, k, bb, j, ks⟩, A, c⟩, rfl, ⟨wfr hi, wfr hk, wfr hj, hks⟩, hR⟩
end
end Go.RV


set_option linter.unusedVariables false
set_option maxRecDepth 20000
namespace Go.RV
open Go Go.Proofs Go.ChangeShapes Go.WideShapes Go.RowKit
section
variable {W w : World} {r : Reach} {b0 : Nat} {v : Value}
variable {H : Type} {en : TypeId × Value → H} {base : Nat} {spare : Nat → Bool} {held : Bool} {d : DataW H} {ps : List MemPlace}
theorem open_rec (hv : Value.okWide Tryz.prog w r b0 49 v) (h : DataW.Trod en Tryz.prog w base spare held 49 v d ps) :
    ∃ (x : Rx) (h : Hd) (ms : List Sm), v = recV x h ∧ okR x ∧ x.xs.length ≤ 9223372036854775807 ∧ MemR w x h ms := by
  obtain ⟨cs, rfl, hl, hc⟩ := okWide_cells (.inl ⟨_, Tryz.underlying49⟩) (ts := [5, 5, 32, 32, 32, 5, 32, 3, 9, 32, 32, 32, 32, 32, 32, 32, 32, 38, 32, 32, 5, 4, 3, 41, 32, 32, 32, 32, 32, 32, 32, 32, 32, 3, 3, 3]) (by kernel_rfl) (by kernel_rfl) hv
  obtain ⟨a0, a1, a2, a3, a4, a5, a6, a7, a8, f0, f1, f2, f3, f4, f5, f6, f7, l, b0, b1, b2, b3, b4, b5, g0, g1, g2, g3, g4, g5, g6, g7, c0, c1, c2, c3, rfl⟩ := cells36 hl
  obtain ⟨_, e_a0, h_a0⟩ := hc 0 _ rfl
  obtain ⟨_, e_a1, h_a1⟩ := hc 1 _ rfl
  obtain ⟨_, e_a2, h_a2⟩ := hc 2 _ rfl
  obtain ⟨_, e_a3, h_a3⟩ := hc 3 _ rfl
  obtain ⟨_, e_a4, h_a4⟩ := hc 4 _ rfl
  obtain ⟨_, e_a5, h_a5⟩ := hc 5 _ rfl
  obtain ⟨_, e_a6, h_a6⟩ := hc 6 _ rfl
  obtain ⟨_, e_a7, h_a7⟩ := hc 7 _ rfl
  obtain ⟨_, e_a8, h_a8⟩ := hc 8 _ rfl
  obtain ⟨_, e_f0, h_f0⟩ := hc 9 _ rfl
  obtain ⟨_, e_f1, h_f1⟩ := hc 10 _ rfl
  obtain ⟨_, e_f2, h_f2⟩ := hc 11 _ rfl
  obtain ⟨_, e_f3, h_f3⟩ := hc 12 _ rfl
  obtain ⟨_, e_f4, h_f4⟩ := hc 13 _ rfl
  obtain ⟨_, e_f5, h_f5⟩ := hc 14 _ rfl
  obtain ⟨_, e_f6, h_f6⟩ := hc 15 _ rfl
  obtain ⟨_, e_f7, h_f7⟩ := hc 16 _ rfl
  obtain ⟨_, e_l, h_l⟩ := hc 17 _ rfl
  obtain ⟨_, e_b0, h_b0⟩ := hc 18 _ rfl
  obtain ⟨_, e_b1, h_b1⟩ := hc 19 _ rfl
  obtain ⟨_, e_b2, h_b2⟩ := hc 20 _ rfl
  obtain ⟨_, e_b3, h_b3⟩ := hc 21 _ rfl
  obtain ⟨_, e_b4, h_b4⟩ := hc 22 _ rfl
  obtain ⟨_, e_b5, h_b5⟩ := hc 23 _ rfl
  obtain ⟨_, e_g0, h_g0⟩ := hc 24 _ rfl
  obtain ⟨_, e_g1, h_g1⟩ := hc 25 _ rfl
  obtain ⟨_, e_g2, h_g2⟩ := hc 26 _ rfl
  obtain ⟨_, e_g3, h_g3⟩ := hc 27 _ rfl
  obtain ⟨_, e_g4, h_g4⟩ := hc 28 _ rfl
  obtain ⟨_, e_g5, h_g5⟩ := hc 29 _ rfl
  obtain ⟨_, e_g6, h_g6⟩ := hc 30 _ rfl
  obtain ⟨_, e_g7, h_g7⟩ := hc 31 _ rfl
  obtain ⟨_, e_c0, h_c0⟩ := hc 32 _ rfl
  obtain ⟨_, e_c1, h_c1⟩ := hc 33 _ rfl
  obtain ⟨_, e_c2, h_c2⟩ := hc 34 _ rfl
  obtain ⟨_, e_c3, h_c3⟩ := hc 35 _ rfl
  cases e_a0; cases e_a1; cases e_a2; cases e_a3; cases e_a4; cases e_a5; cases e_a6; cases e_a7; cases e_a8; cases e_f0; cases e_f1; cases e_f2; cases e_f3; cases e_f4; cases e_f5; cases e_f6; cases e_f7; cases e_l; cases e_b0; cases e_b1; cases e_b2; cases e_b3; cases e_b4; cases e_b5; cases e_g0; cases e_g1; cases e_g2; cases e_g3; cases e_g4; cases e_g5; cases e_g6; cases e_g7; cases e_c0; cases e_c1; cases e_c2; cases e_c3
  obtain ⟨n_a0, rfl, q_a0⟩ := cell_int Tryz.underlying5 h_a0
  obtain ⟨n_a1, rfl, q_a1⟩ := cell_int Tryz.underlying5 h_a1
  obtain ⟨n_a2, rfl, q_a2⟩ := cell_int Tryz.underlying32 h_a2
  obtain ⟨n_a3, rfl, q_a3⟩ := cell_int Tryz.underlying32 h_a3
  obtain ⟨n_a4, rfl, q_a4⟩ := cell_int Tryz.underlying32 h_a4
  obtain ⟨n_a5, rfl, q_a5⟩ := cell_int Tryz.underlying5 h_a5
  obtain ⟨n_a6, rfl, q_a6⟩ := cell_int Tryz.underlying32 h_a6
  obtain ⟨n_a7, rfl, q_a7⟩ := cell_int Tryz.underlying3 h_a7
  obtain ⟨n_a8, rfl, _⟩ := cell_string Tryz.underlying9 h_a8
  obtain ⟨n_f0, rfl, q_f0⟩ := cell_int Tryz.underlying32 h_f0
  obtain ⟨n_f1, rfl, q_f1⟩ := cell_int Tryz.underlying32 h_f1
  obtain ⟨n_f2, rfl, q_f2⟩ := cell_int Tryz.underlying32 h_f2
  obtain ⟨n_f3, rfl, q_f3⟩ := cell_int Tryz.underlying32 h_f3
  obtain ⟨n_f4, rfl, q_f4⟩ := cell_int Tryz.underlying32 h_f4
  obtain ⟨n_f5, rfl, q_f5⟩ := cell_int Tryz.underlying32 h_f5
  obtain ⟨n_f6, rfl, q_f6⟩ := cell_int Tryz.underlying32 h_f6
  obtain ⟨n_f7, rfl, q_f7⟩ := cell_int Tryz.underlying32 h_f7
  obtain ⟨n_b0, rfl, q_b0⟩ := cell_int Tryz.underlying32 h_b0
  obtain ⟨n_b1, rfl, q_b1⟩ := cell_int Tryz.underlying32 h_b1
  obtain ⟨n_b2, rfl, q_b2⟩ := cell_int Tryz.underlying5 h_b2
  obtain ⟨n_b3, rfl⟩ := cell_bool Tryz.underlying4 h_b3
  obtain ⟨n_b4, rfl, q_b4⟩ := cell_int Tryz.underlying3 h_b4
  obtain ⟨n_g0, rfl, q_g0⟩ := cell_int Tryz.underlying32 h_g0
  obtain ⟨n_g1, rfl, q_g1⟩ := cell_int Tryz.underlying32 h_g1
  obtain ⟨n_g2, rfl, q_g2⟩ := cell_int Tryz.underlying32 h_g2
  obtain ⟨n_g3, rfl, q_g3⟩ := cell_int Tryz.underlying32 h_g3
  obtain ⟨n_g4, rfl, q_g4⟩ := cell_int Tryz.underlying32 h_g4
  obtain ⟨n_g5, rfl, q_g5⟩ := cell_int Tryz.underlying32 h_g5
  obtain ⟨n_g6, rfl, q_g6⟩ := cell_int Tryz.underlying32 h_g6
  obtain ⟨n_g7, rfl, q_g7⟩ := cell_int Tryz.underlying32 h_g7
  obtain ⟨n_c0, rfl, q_c0⟩ := cell_int Tryz.underlying32 h_c0
  obtain ⟨n_c1, rfl, q_c1⟩ := cell_int Tryz.underlying3 h_c1
  obtain ⟨n_c2, rfl, q_c2⟩ := cell_int Tryz.underlying3 h_c2
  obtain ⟨n_c3, rfl, q_c3⟩ := cell_int Tryz.underlying3 h_c3
  have u_l : Value.okWide Tryz.prog w r b0 38 l := by simp only [Value.okWide, Tryz.underlying38]; exact h_l
  have u_b5 : Value.okWide Tryz.prog w r b0 41 b5 := by simp only [Value.okWide, Tryz.underlying41]; exact h_b5
  obtain ⟨fuel, hf⟩ := h
  obtain ⟨xs4, n, _, _, _, hlen, hg⟩ := DataW.trod_struct Tryz.underlying49 hf
  have g := hg 5 _ rfl
  obtain ⟨yr, er⟩ : ∃ y, xs4[5]? = some y := ⟨_, List.getElem?_eq_getElem (by rw [hlen]; decide)⟩
  rw [er] at g
  have k := hg 6 _ rfl
  obtain ⟨yk, ek⟩ : ∃ y, xs4[6]? = some y := ⟨_, List.getElem?_eq_getElem (by rw [hlen]; decide)⟩
  rw [ek] at k
  have cr : Tryz.prog.cellsOf 40 = 9 := by kernel_rfl
  have cv : Tryz.prog.cellsOf 45 = 6 := by kernel_rfl
  simp [cr, Value.cells] at g
  simp [cv, Value.cells] at k
  obtain ⟨z0, z1, mm, _, _, _, g⟩ := trod_struct2 Tryz.underlying40 g
  have cs1 : Tryz.prog.cellsOf 38 = 1 := by kernel_rfl
  have cs2 : Tryz.prog.cellsOf 41 = 1 := by kernel_rfl
  have cs3 : Tryz.prog.cellsOf 43 = 3 := by kernel_rfl
  simp [cs1] at g
  obtain ⟨xs5, n5, _, _, _, hlen5, k⟩ := DataW.trod_struct Tryz.underlying45 k
  replace k := k 3 _ rfl
  obtain ⟨yk, ek⟩ : ∃ y, xs5[3]? = some y := ⟨_, List.getElem?_eq_getElem (by rw [hlen5]; decide)⟩
  rw [ek] at k
  simp [cs3] at k
  obtain ⟨v0, v1, v2, m3, _, _, _, _, k⟩ := Go.Deep.trod_struct3 Tryz.underlying43 k
  simp [cs2] at k
  obtain ⟨_, _, _, q⟩ := okWide_slice Tryz.underlying38 u_l
  obtain ⟨A, c, ms, rfl, hle, hm, hR, hx, _⟩ := open_sibsM u_l ⟨mm, by rw [q] at g ⊢; exact g⟩
  obtain ⟨B, e, ks, eb, hleb, hmb, hRb, hks⟩ := open_nums k
  cases eb
  have hml : maxLen = 9223372036854775807 := rfl
  refine ⟨⟨n_a0, n_a1, n_a2, n_a3, n_a4, n_a5, n_a6, n_a7, n_a8.data.toList, vec8r n_f0 n_f1 n_f2 n_f3 n_f4 n_f5 n_f6 n_f7, ms.map Sm.s, n_b0, n_b1, n_b2, ⟨n_b3, n_b4, ks⟩, vec8r n_g0 n_g1 n_g2 n_g3 n_g4 n_g5 n_g6 n_g7, n_c0, n_c1, n_c2, n_c3⟩, ⟨A, c, B, e⟩, ms, ?_, ?_, ?_, ?_⟩
  · unfold recV recL
    simp only
    rw [strY_dr, List.length_map]
    rfl
  · refine ⟨⟨q_a0.1, q_a0.2⟩, ⟨q_a1.1, q_a1.2⟩, ⟨q_a2.1, q_a2.2⟩, ⟨q_a3.1, q_a3.2⟩, ⟨q_a4.1, q_a4.2⟩, ⟨q_a5.1, q_a5.2⟩, ⟨q_a6.1, q_a6.2⟩, ⟨q_a7.1, q_a7.2⟩, vec8r_ok ⟨q_f0.1, q_f0.2⟩ ⟨q_f1.1, q_f1.2⟩ ⟨q_f2.1, q_f2.2⟩ ⟨q_f3.1, q_f3.2⟩ ⟨q_f4.1, q_f4.2⟩ ⟨q_f5.1, q_f5.2⟩ ⟨q_f6.1, q_f6.2⟩ ⟨q_f7.1, q_f7.2⟩, ?_, ⟨q_b0.1, q_b0.2⟩, ⟨q_b1.1, q_b1.2⟩, ⟨q_b2.1, q_b2.2⟩, ⟨⟨q_b4.1, q_b4.2⟩, hks⟩, vec8r_ok ⟨q_g0.1, q_g0.2⟩ ⟨q_g1.1, q_g1.2⟩ ⟨q_g2.1, q_g2.2⟩ ⟨q_g3.1, q_g3.2⟩ ⟨q_g4.1, q_g4.2⟩ ⟨q_g5.1, q_g5.2⟩ ⟨q_g6.1, q_g6.2⟩ ⟨q_g7.1, q_g7.2⟩, ⟨q_c0.1, q_c0.2⟩, ⟨q_c1.1, q_c1.2⟩, ⟨q_c2.1, q_c2.2⟩, ⟨q_c3.1, q_c3.2⟩⟩
    intro s hs
    obtain ⟨m, hm, rfl⟩ := List.mem_map.1 hs
    exact (hx m hm).1
  · simp only [List.length_map]; omega
  · exact ⟨rfl, ⟨hR, fun m hm => (hx m hm).2⟩, hRb⟩
end
end Go.RV
