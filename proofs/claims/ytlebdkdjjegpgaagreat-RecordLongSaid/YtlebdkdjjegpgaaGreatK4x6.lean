/- Texts of mine, packed for a claim (bundle.py). Conditions: none. -/
import Derived.Test.YtlebdkdjjegpgaaGreatK4x5
import Derived.Deep.Strs
import Derived.Deep.Fields
set_option maxRecDepth 20000
set_option linter.unusedVariables false
set_option linter.unusedSimpArgs false
namespace Go.RV
open Go Go.Proofs Go.RowKit

theorem fails18_c (t : List UInt8) (ht : t.length ≤ 1000000) (e : Int) (he : e ≠ 0) (h2 : (takeR t).2 = e) (w : World) :
    Fc Tryz.prog 24 [.string (strY t), .int .i64 e] w fun v w' => v = .bool true ∧ St [] w w' [] := by
  have h1 : (takeR t).1 = [] := by
    rcases takeR_got t with h | h
    · exact absurd (h2 ▸ h.1) he
    · exact h.2
  have hge : (e == e) = true := by simp
  refine fc_i TB_ok Tryz.func24 rfl (by kernel_rfl) ?_
  have hS := Sf.refl w
  repeat ((conv => whnf); first | (apply q_i; focus (intro w1 hS; (conv => whnf); first | exact ⟨rfl, rfl⟩)) | (refine nw_f hS ?_; intro b w1 hS) | refine as_i hS ?_ | refine as_i (hS.subs (List.nil_sublist _) sb9) ?_ | refine as_i (hS.subs (List.Sublist.refl _) sb9) ?_ | refine bar_f hS ?_ | (refine drawf TB_ok rfl (by kernel_rfl) (by kernel_rfl) hS (List.Sublist.refl _) (List.Sublist.refl _) ?_; intro w1 hS) | refine br_t (by assumption) ?_ | refine br_f (by assumption) ?_)
  refine fc_m (take18_c t ht _) ?_
  rintro v w1 ⟨A, c, rs, Lv, rfl, hrs, hK, hS'⟩
  rw [h2]
  rw [h1] at hrs
  obtain rfl : rs = [] := List.map_eq_nil_iff.1 hrs.symm
  replace hS := hS.callF hS'
  repeat ((conv => whnf); first | (apply q_i; focus (intro w1 hS; (conv => whnf); first | exact ⟨rfl, rfl⟩)) | (refine nw_f hS ?_; intro b w1 hS) | refine as_i hS ?_ | refine as_i (hS.subs (List.nil_sublist _) sb9) ?_ | refine as_i (hS.subs (List.Sublist.refl _) sb9) ?_ | refine bar_f hS ?_ | (refine drawf TB_ok rfl (by kernel_rfl) (by kernel_rfl) hS (List.Sublist.refl _) (List.Sublist.refl _) ?_; intro w1 hS) | refine br_t (by assumption) ?_ | refine br_f (by assumption) ?_)
  exact ⟨congrArg Value.bool hge, hS.nil⟩
theorem recs1 {rs : List Rm} {y : Rx} (h : [y] = rs.map Rm.x) : ∃ r, rs = [r] ∧ r.x = y := by
  cases rs with
  | nil => cases h
  | cons r rs =>
    simp only [List.map_cons, List.cons.injEq] at h
    obtain ⟨h1, h2⟩ := h
    have : rs = [] := List.map_eq_nil_iff.1 h2.symm
    subst this
    exact ⟨r, rfl, h1.symm⟩
theorem backR_few {x : Rx} (hz : fewR x) : fewR (backR x) := by
  have h1 : (backR x).p = [] ∨ (backR x).p = x.p := by
    show (needR x).p = [] ∨ (needR x).p = x.p
    unfold needR
    repeat' split
    all_goals first
      | exact .inl rfl
      | exact .inr rfl
  have h2 : (backR x).xs = [] ∨ (backR x).xs = x.xs := by
    show (needR x).xs = [] ∨ (needR x).xs = x.xs
    unfold needR
    repeat' split
    all_goals first
      | exact .inl rfl
      | exact .inr rfl
  have h3 : (backR x).v = zeroVa ∨ (backR x).v = x.v := by
    show (needR x).v = zeroVa ∨ (needR x).v = x.v
    unfold needR
    repeat' split
    all_goals first
      | exact .inl rfl
      | exact .inr rfl
  refine ⟨?_, ?_, ?_, ?_⟩
  · rcases h1 with h | h <;> rw [h]
    · simp
    · exact hz.p
  · rcases h2 with h | h <;> rw [h]
    · simp
    · exact hz.l
  · rcases h2 with h | h <;> rw [h]
    · intro s hs; cases hs
    · exact hz.el
  · rcases h3 with h | h <;> rw [h]
    · show (0 : Nat) ≤ 20; decide
    · exact hz.v
theorem puts18_c (x : Rx) (ho : okR x) (hz : fewR x) (hc : checkR x = true) (h : Hd) (ms : List Sm) (want : List UInt8) (hw : recT x = want) (w : World) (hx : MemR w x h ms) :
    Fc Tryz.prog 23 [recV x h, .string (strY want)] w fun v w' => v = .bool true ∧ St [] w w' [] := by
  have hwl : want.length ≤ 300 := by rw [← hw]; exact recT_len hc
  have htk : takeR want = ([backR x], 0) := by
    have := take_all [x] (fun y hy => by obtain rfl := List.mem_singleton.1 hy; exact ⟨ho, hc⟩) []
    rw [List.flatMap_cons, List.flatMap_nil, List.append_nil, hw] at this
    exact this
  have hput := fun A c w' => putR_c A c [⟨x, h, ms⟩] (fun y hy => by obtain rfl := List.mem_singleton.1 hy; exact ⟨ho, hz.sz⟩) (by simp) w'
  have hpe : putR ([(⟨x, h, ms⟩ : Rm)].map Rm.x) = (want, 0) := by
    rw [show ([(⟨x, h, ms⟩ : Rm)].map Rm.x) = [x] from rfl, putR1, if_pos hc, hw]
  rw [hpe] at hput
  have hck := fun w' => check18_c x ho hz.sz h ms w'
  rw [hc] at hck
  have heq : streq (strY want) (strY want) = true := by rw [streq_strY]; simp
  have hb := back_lk hc
  have hsm : sameR (backR x) x = true := sameR_iff.2 hb
  have hbf := backR_few hz
  clear hpe
  refine fc_i TB_ok Tryz.func23 rfl (by kernel_rfl) ?_
  have hS := Sf.refl w
  repeat ((conv => whnf); first | (apply q_i; focus (intro w1 hS; (conv => whnf); first | exact ⟨rfl, rfl⟩ | ((refine ld_f hS 0 rfl rfl ?_); (conv => whnf); exact ⟨rfl, rfl⟩) | ((refine ld_f hS 1 rfl rfl ?_); (conv => whnf); exact ⟨rfl, rfl⟩) | ((refine ldA_f hS 0 rfl rfl ?_); (conv => whnf); exact ⟨rfl, rfl⟩) | ((refine ldA_f hS 1 rfl rfl ?_); (conv => whnf); exact ⟨rfl, rfl⟩))) | (refine nw_f hS ?_; intro b w1 hS) | refine as_i hS ?_ | refine as_i (hS.subs (List.nil_sublist _) sb9) ?_ | refine as_i (hS.subs (List.Sublist.refl _) sb9) ?_ | refine bar_f hS ?_ | refine ld_f hS 0 rfl rfl ?_ | refine ld_f hS 1 rfl rfl ?_ | refine ldA_f hS 0 rfl rfl ?_ | refine ldA_f hS 1 rfl rfl ?_ | (refine stN_f hS 0 rfl (lb9 rfl) rfl rfl ?_; (conv => whnf); intro w1 hS) | (refine stN_f hS 1 rfl (lb9 rfl) rfl rfl ?_; (conv => whnf); intro w1 hS) | (refine stM_f hS 0 rfl (lb9 rfl) rfl ?_; (conv => whnf); intro w1 hS) | (refine stM_f hS 1 rfl (lb9 rfl) rfl ?_; (conv => whnf); intro w1 hS) | (refine drawf TB_ok rfl (by kernel_rfl) (by kernel_rfl) hS (List.Sublist.refl _) (List.Sublist.refl _) ?_; intro w1 hS) | refine br_t (by assumption) ?_ | refine br_f (by assumption) ?_)
  refine fc_m (hput _ _ _ ⟨hS.rd 0 rfl, fun y hy => by obtain rfl := List.mem_singleton.1 hy; exact hx.below hS.nil⟩) ?_
  rintro v w1 ⟨rfl, hS'⟩
  replace hS := hS.call0 hS'
  repeat ((conv => whnf); first | (apply q_i; focus (intro w1 hS; (conv => whnf); first | exact ⟨rfl, rfl⟩ | ((refine ld_f hS 0 rfl rfl ?_); (conv => whnf); exact ⟨rfl, rfl⟩) | ((refine ld_f hS 1 rfl rfl ?_); (conv => whnf); exact ⟨rfl, rfl⟩) | ((refine ldA_f hS 0 rfl rfl ?_); (conv => whnf); exact ⟨rfl, rfl⟩) | ((refine ldA_f hS 1 rfl rfl ?_); (conv => whnf); exact ⟨rfl, rfl⟩))) | (refine nw_f hS ?_; intro b w1 hS) | refine as_i hS ?_ | refine as_i (hS.subs (List.nil_sublist _) sb9) ?_ | refine as_i (hS.subs (List.Sublist.refl _) sb9) ?_ | refine bar_f hS ?_ | refine ld_f hS 0 rfl rfl ?_ | refine ld_f hS 1 rfl rfl ?_ | refine ldA_f hS 0 rfl rfl ?_ | refine ldA_f hS 1 rfl rfl ?_ | (refine stN_f hS 0 rfl (lb9 rfl) rfl rfl ?_; (conv => whnf); intro w1 hS) | (refine stN_f hS 1 rfl (lb9 rfl) rfl rfl ?_; (conv => whnf); intro w1 hS) | (refine stM_f hS 0 rfl (lb9 rfl) rfl ?_; (conv => whnf); intro w1 hS) | (refine stM_f hS 1 rfl (lb9 rfl) rfl ?_; (conv => whnf); intro w1 hS) | (refine drawf TB_ok rfl (by kernel_rfl) (by kernel_rfl) hS (List.Sublist.refl _) (List.Sublist.refl _) ?_; intro w1 hS) | refine br_t (by assumption) ?_ | refine br_f (by assumption) ?_)
  refine fc_m (take18_c want (by omega) _) ?_
  rintro v w2 ⟨A, c, rs, Lv, rfl, hrs, hK, hS'⟩
  rw [htk] at hrs
  rw [htk]
  obtain ⟨r, rfl, hrx⟩ := recs1 hrs
  replace hS := hS.callF hS'
  have hRf : ∀ {w' : World} {F L : LM}, Sf [] w w' (Lv ++ F) L → RdR w' A [r] := fun h => hK _ (h.st.holds (Ls := Lv) (fun y hy => by simp [hy]))
  obtain ⟨b0, off, rfl⟩ := (hRf hS).rd.form (flat_ne encRm_len (by omega) (show 0 < [r].length by simp))
  have hsame := fun (w' : World) => sameR_c r.x x r.h h r.ms ms w'
  rw [hrx, hsm] at hsame
  have hmr : ∀ {w' : World} {F L : LM}, Sf [] w w' (Lv ++ F) L → MemR w' (backR x) r.h r.ms := fun h => by
    have := (hRf h).el r (by simp)
    rwa [hrx] at this
  have hrec : encRm r = recL (backR x) r.h := by unfold encRm; rw [hrx]
  have hld : ∀ {w' : World} {F L : LM} {o n : Nat} {K : List Value → Prop}, Sf [] w w' (Lv ++ F) L → o = off → n = 36 → K (recL (backR x) r.h) → LdN w' ⟨b0, o, none⟩ n K := fun h ho hn hk =>
    ldN_el encRm_len (hRf h).rd.at (i := 0) (by simp) (by omega) hn (by rw [show [r][0] = r from rfl, hrec]; exact hk)
  have hbl := hbf.l
  have hbv := hbf.v
  have hbe := hbf.el
  have hpl := hz.sz
  repeat ((conv => whnf); first | (apply q_i; focus (intro w1 hS; (conv => whnf); first | exact ⟨rfl, rfl⟩ | ((refine ld_f hS 0 rfl rfl ?_); (conv => whnf); exact ⟨rfl, rfl⟩) | ((refine ld_f hS 1 rfl rfl ?_); (conv => whnf); exact ⟨rfl, rfl⟩) | ((refine ldA_f hS 0 rfl rfl ?_); (conv => whnf); exact ⟨rfl, rfl⟩) | ((refine ldA_f hS 1 rfl rfl ?_); (conv => whnf); exact ⟨rfl, rfl⟩) | ((refine .mk ⟨by decide, by simp⟩ ?_; refine ix_i rfl ?_); (conv => whnf); exact ⟨rfl, rfl⟩) | ((refine hld hS rfl rfl ?_); (conv => whnf); exact ⟨rfl, rfl⟩) | ((refine fc_m (hsame _ (hmr hS) (hx.below hS.nil) (by omega) (fun s hs => by have := hbe s hs; omega) (by omega)) ?_; rintro v w3 ⟨rfl, hS'⟩; replace hS := hS.call0 hS'); (conv => whnf); exact ⟨rfl, rfl⟩) | ((refine fc_m (hck _ (hx.below hS.nil)) ?_; rintro v w3 ⟨rfl, hS'⟩; replace hS := hS.call0 hS'); (conv => whnf); exact ⟨rfl, rfl⟩))) | (refine nw_f hS ?_; intro b w1 hS) | refine as_i hS ?_ | refine as_i (hS.subs (List.nil_sublist _) sb9) ?_ | refine as_i (hS.subs (List.Sublist.refl _) sb9) ?_ | refine bar_f hS ?_ | refine ld_f hS 0 rfl rfl ?_ | refine ld_f hS 1 rfl rfl ?_ | refine ldA_f hS 0 rfl rfl ?_ | refine ldA_f hS 1 rfl rfl ?_ | (refine stN_f hS 0 rfl (lb9 rfl) rfl rfl ?_; (conv => whnf); intro w1 hS) | (refine stN_f hS 1 rfl (lb9 rfl) rfl rfl ?_; (conv => whnf); intro w1 hS) | (refine stM_f hS 0 rfl (lb9 rfl) rfl ?_; (conv => whnf); intro w1 hS) | (refine stM_f hS 1 rfl (lb9 rfl) rfl ?_; (conv => whnf); intro w1 hS) | (refine .mk ⟨by decide, by simp⟩ ?_; refine ix_i rfl ?_) | refine hld hS rfl rfl ?_ | (refine fc_m (hsame _ (hmr hS) (hx.below hS.nil) (by omega) (fun s hs => by have := hbe s hs; omega) (by omega)) ?_; rintro v w3 ⟨rfl, hS'⟩; replace hS := hS.call0 hS') | (refine fc_m (hck _ (hx.below hS.nil)) ?_; rintro v w3 ⟨rfl, hS'⟩; replace hS := hS.call0 hS') | (refine drawf TB_ok rfl (by kernel_rfl) (by kernel_rfl) hS (List.Sublist.refl _) (List.Sublist.refl _) ?_; intro w1 hS) | refine br_t (by assumption) ?_ | refine br_f (by assumption) ?_)
  exact ⟨rfl, hS.nil⟩
def wk1 : Rx := { zeroRx 1 with r := 3 }
def wk2 : Rx := { zeroRx 4 with p := [47, 97], f := fun j => if j = 1 then 2 else 0, xs := [⟨1, 2, ⟨true, 0, []⟩⟩] }
theorem wk1_check : checkR wk1 = true := by decide +kernel
theorem wk2_check : checkR wk2 = true := by decide +kernel
theorem wk1_text : recT wk1 = [1, 3] := by decide +kernel
theorem wk2_text : recT wk2 = [4, 2, 47, 97, 2, 0, 2, 1, 1, 0, 2, 1] := by decide +kernel
theorem wk_nine : (takeR [9]).2 = 4 := by decide +kernel
theorem wk_torn : (takeR [1]).2 = 10 := by decide +kernel
end Go.RV


set_option maxRecDepth 20000
set_option linter.unusedVariables false
set_option linter.unusedSimpArgs false
namespace Go.RV
open Go Go.Proofs Go.RowKit

def dirF : Nat → Int := fun j => if j = 1 then 2 else 0
def dirM : Sm := ⟨⟨1, 2, ⟨true, 0, []⟩⟩, none, 0⟩
theorem dir18_c (w : World) : Fc Tryz.prog 26 [] w fun v w' => ∃ q, v = regV dirF (some ⟨q, 0, none⟩) 1 1 ∧ St [] w w' [(q, .cells (encM dirM).toArray 94 (0, 0))] := by
  refine fc_i TB_ok Tryz.func26 rfl (by kernel_rfl) ?_
  have hS := Sf.refl w
  repeat ((conv => whnf); first | (apply q_i; focus (intro w1 hS; (conv => whnf); first | exact ⟨rfl, rfl⟩ | ((refine ld_f hS 0 rfl rfl ?_); (conv => whnf); exact ⟨rfl, rfl⟩) | ((refine ld_f hS 1 rfl rfl ?_); (conv => whnf); exact ⟨rfl, rfl⟩) | ((refine ld_f hS 2 rfl rfl ?_); (conv => whnf); exact ⟨rfl, rfl⟩) | ((refine ldA_f hS 0 rfl rfl ?_); (conv => whnf); exact ⟨rfl, rfl⟩) | ((refine ldA_f hS 1 rfl rfl ?_); (conv => whnf); exact ⟨rfl, rfl⟩) | ((refine ldA_f hS 2 rfl rfl ?_); (conv => whnf); exact ⟨rfl, rfl⟩) | ((refine ldN_f hS 0 rfl (lb9 rfl) ?_); (conv => whnf); exact ⟨rfl, rfl⟩) | ((refine ldN_f hS 1 rfl (lb9 rfl) ?_); (conv => whnf); exact ⟨rfl, rfl⟩))) | (refine nw_f hS ?_; intro b w1 hS) | refine as_i hS ?_ | refine as_i (hS.subs (List.nil_sublist _) sb9) ?_ | refine as_i (hS.subs (List.Sublist.refl _) sb9) ?_ | refine bar_f hS ?_ | refine ld_f hS 0 rfl rfl ?_ | refine ld_f hS 1 rfl rfl ?_ | refine ld_f hS 2 rfl rfl ?_ | refine ldA_f hS 0 rfl rfl ?_ | refine ldA_f hS 1 rfl rfl ?_ | refine ldA_f hS 2 rfl rfl ?_ | (refine stN_f hS 0 rfl (lb9 rfl) rfl rfl ?_; (conv => whnf); intro w1 hS) | (refine stN_f hS 1 rfl (lb9 rfl) rfl rfl ?_; (conv => whnf); intro w1 hS) | (refine stN_f hS 2 rfl (lb9 rfl) rfl rfl ?_; (conv => whnf); intro w1 hS) | (refine stM_f hS 0 rfl (lb9 rfl) rfl ?_; (conv => whnf); intro w1 hS) | (refine stM_f hS 1 rfl (lb9 rfl) rfl ?_; (conv => whnf); intro w1 hS) | (refine stM_f hS 2 rfl (lb9 rfl) rfl ?_; (conv => whnf); intro w1 hS) | refine ldN_f hS 0 rfl (lb9 rfl) ?_ | refine ldN_f hS 1 rfl (lb9 rfl) ?_ | (refine drawf TB_ok rfl (by kernel_rfl) (by kernel_rfl) hS (List.Sublist.refl _) (List.Sublist.refl _) ?_; intro w1 hS) | refine br_t (by assumption) ?_ | refine br_f (by assumption) ?_)
  exact ⟨_, rfl, hS.sub (.cons_cons _ (.cons _ (.refl _)))⟩
theorem wk1_ok : okR wk1 := { zeroRx_ok (k := 1) (by decide) with r := (by show (0 : Int) ≤ 3 ∧ (3 : Int) ≤ 255; decide) }
theorem wk1_few : fewR wk1 := ⟨Nat.zero_le _, Nat.zero_le _, (fun s hs => (nomatch hs)), Nat.zero_le _⟩
theorem dirF_ok : ∀ j, j < 8 → 0 ≤ dirF j ∧ dirF j ≤ 4294967295 := fun j _ => by unfold dirF; split <;> decide
theorem dir_el : okSv dirM.s := ⟨by decide, by decide, by decide, fun k hk => (nomatch hk)⟩
theorem wk2_ok : okR wk2 := { zeroRx_ok (k := 4) (by decide) with f := dirF_ok, xs := fun s hs => by obtain rfl := List.mem_singleton.1 hs; exact dir_el }
theorem wk2_few : fewR wk2 := ⟨by decide, by decide, fun s hs => by obtain rfl := List.mem_singleton.1 hs; exact Nat.zero_le _, Nat.zero_le _⟩
theorem wk2_mem {w : World} {b : Nat} (hR : Rd w (some ⟨b, 0, none⟩) (flat encM [dirM])) : MemR w wk2 ⟨some ⟨b, 0, none⟩, 1, none, 0⟩ [dirM] :=
  ⟨rfl, ⟨hR, fun m hm => by obtain rfl := List.mem_singleton.1 hm; exact .inl rfl⟩, .inl rfl⟩
theorem works18_c (w : World) : Fc Tryz.prog 8 [] w fun v w' => v = .bool true ∧ St [] w w' [] := by
  refine fc_i TB_ok Tryz.func8 rfl (by kernel_rfl) ?_
  have hS := Sf.refl w
  have p1 := fun (w' : World) => puts18_c wk1 wk1_ok wk1_few wk1_check noHd [] [1, 3] wk1_text w' (mem_none wk1 w' rfl rfl)
  have p2 := fun (w' : World) q => puts18_c wk2 wk2_ok wk2_few wk2_check ⟨some ⟨q, 0, none⟩, 1, none, 0⟩ [dirM] [4, 2, 47, 97, 2, 0, 2, 1, 1, 0, 2, 1] wk2_text w'
  have f1 := fun (w' : World) => fails18_c [9] (by decide) 4 (by decide) wk_nine w'
  have f2 := fun (w' : World) => fails18_c [1] (by decide) 10 (by decide) wk_torn w'
  repeat ((conv => whnf); first | (apply q_i; focus (intro w1 hS; (conv => whnf); first | exact ⟨rfl, rfl⟩)) | (refine nw_f hS ?_; intro b w1 hS) | refine as_i hS ?_ | refine as_i (hS.subs (List.nil_sublist _) sb9) ?_ | refine as_i (hS.subs (List.Sublist.refl _) sb9) ?_ | refine bar_f hS ?_ | (refine drawf TB_ok rfl (by kernel_rfl) (by kernel_rfl) hS (List.Sublist.refl _) (List.Sublist.refl _) ?_; intro w1 hS) | refine br_t (by assumption) ?_ | refine br_f (by assumption) ?_)
  refine fc_m (p1 _) ?_
  rintro v w1 ⟨rfl, hS'⟩
  replace hS := hS.call0 hS'
  repeat ((conv => whnf); first | (apply q_i; focus (intro w1 hS; (conv => whnf); first | exact ⟨rfl, rfl⟩)) | (refine nw_f hS ?_; intro b w1 hS) | refine as_i hS ?_ | refine as_i (hS.subs (List.nil_sublist _) sb9) ?_ | refine as_i (hS.subs (List.Sublist.refl _) sb9) ?_ | refine bar_f hS ?_ | (refine drawf TB_ok rfl (by kernel_rfl) (by kernel_rfl) hS (List.Sublist.refl _) (List.Sublist.refl _) ?_; intro w1 hS) | refine br_t (by assumption) ?_ | refine br_f (by assumption) ?_)
  refine fc_m (dir18_c _) ?_
  rintro v w2 ⟨q, rfl, hS'⟩
  replace hS := hS.call' hS'
  repeat ((conv => whnf); first | (apply q_i; focus (intro w1 hS; (conv => whnf); first | exact ⟨rfl, rfl⟩ | ((refine ld_f hS 0 rfl rfl ?_); (conv => whnf); exact ⟨rfl, rfl⟩) | ((refine ldA_f hS 0 rfl rfl ?_); (conv => whnf); exact ⟨rfl, rfl⟩))) | (refine nw_f hS ?_; intro b w1 hS) | refine as_i hS ?_ | refine as_i (hS.subs (List.nil_sublist _) sb9) ?_ | refine as_i (hS.subs (List.Sublist.refl _) sb9) ?_ | refine bar_f hS ?_ | refine ld_f hS 0 rfl rfl ?_ | refine ldA_f hS 0 rfl rfl ?_ | (refine stN_f hS 0 rfl (lb9 rfl) rfl rfl ?_; (conv => whnf); intro w1 hS) | (refine stM_f hS 0 rfl (lb9 rfl) rfl ?_; (conv => whnf); intro w1 hS) | (refine drawf TB_ok rfl (by kernel_rfl) (by kernel_rfl) hS (List.Sublist.refl _) (List.Sublist.refl _) ?_; intro w1 hS) | refine br_t (by assumption) ?_ | refine br_f (by assumption) ?_)
  refine fc_m (p2 _ q (wk2_mem (hS.rd 0 rfl))) ?_
  rintro v w3 ⟨rfl, hS'⟩
  replace hS := hS.call0 hS'
  repeat ((conv => whnf); first | (apply q_i; focus (intro w1 hS; (conv => whnf); first | exact ⟨rfl, rfl⟩ | ((refine ld_f hS 0 rfl rfl ?_); (conv => whnf); exact ⟨rfl, rfl⟩) | ((refine ldA_f hS 0 rfl rfl ?_); (conv => whnf); exact ⟨rfl, rfl⟩) | ((refine fc_m (f1 _) ?_; rintro v w3 ⟨rfl, hS'⟩; replace hS := hS.call0 hS'); (conv => whnf); exact ⟨rfl, rfl⟩) | ((refine fc_m (f2 _) ?_; rintro v w3 ⟨rfl, hS'⟩; replace hS := hS.call0 hS'); (conv => whnf); exact ⟨rfl, rfl⟩))) | (refine nw_f hS ?_; intro b w1 hS) | refine as_i hS ?_ | refine as_i (hS.subs (List.nil_sublist _) sb9) ?_ | refine as_i (hS.subs (List.Sublist.refl _) sb9) ?_ | refine bar_f hS ?_ | refine ld_f hS 0 rfl rfl ?_ | refine ldA_f hS 0 rfl rfl ?_ | (refine stN_f hS 0 rfl (lb9 rfl) rfl rfl ?_; (conv => whnf); intro w1 hS) | (refine stM_f hS 0 rfl (lb9 rfl) rfl ?_; (conv => whnf); intro w1 hS) | (refine fc_m (f1 _) ?_; rintro v w3 ⟨rfl, hS'⟩; replace hS := hS.call0 hS') | (refine fc_m (f2 _) ?_; rintro v w3 ⟨rfl, hS'⟩; replace hS := hS.call0 hS') | (refine drawf TB_ok rfl (by kernel_rfl) (by kernel_rfl) hS (List.Sublist.refl _) (List.Sublist.refl _) ?_; intro w1 hS) | refine br_t (by assumption) ?_ | refine br_f (by assumption) ?_)
  exact ⟨rfl, hS.nil⟩
end Go.RV


set_option maxRecDepth 20000
set_option linter.unusedVariables false
set_option linter.unusedSimpArgs false
namespace Go.RV
open Go Go.Proofs Go.RowKit

section
variable {w w' : World} {A : Option Addr} {rs : List Rm} {i o n b0 off : Nat}
end
theorem recT_pos (x : Rx) : 0 < (recT x).length := by
  unfold recT
  rw [List.length_append, be_len]
  omega
end Go.RV

set_option maxRecDepth 20000
set_option linter.unusedVariables false
set_option linter.unusedSimpArgs false
namespace Go.RV
open Go Go.Proofs Go.RowKit

def oK (n k : Int) : Int := IntKind.u32.wrap (1 + (bXor .u32 k n).tmod 2147483648)
def oV (n : Int) (v : Va) : Va := ⟨v.d, v.n, v.ks.map (oK n)⟩
theorem u32_rem {m : Int} (h : 0 ≤ m) (c : Int) (hc : 0 < c) : 0 ≤ m.tmod c ∧ m.tmod c < c := by
  rw [Int.tmod_eq_emod_of_nonneg h]
  exact ⟨Int.emod_nonneg _ (by omega), Int.emod_lt_of_pos _ hc⟩
theorem wrap_u32_nn (m : Int) : 0 ≤ IntKind.u32.wrap m := by
  unfold IntKind.wrap
  simp [IntKind.bits, IntKind.signed]
  omega
theorem oK_ok (n k : Int) : 1 ≤ oK n k ∧ oK n k ≤ 2147483648 := by
  have h := u32_rem (m := bXor .u32 k n) (wrap_u32_nn _) 2147483648 (by decide)
  unfold oK
  rw [wrap_u32 (by omega) (by omega)]
  omega
theorem oV_okVa {n : Int} {v : Va} (h : okVa v) : okVa (oV n v) := ⟨h.1, fun k hk => by
  obtain ⟨j, _, rfl⟩ := List.mem_map.1 hk
  have := oK_ok n j
  omega⟩
theorem oV_okV {n : Int} {v : Va} (h : okV v = true) : okV (oV n v) = true := by
  unfold okV okVB at h ⊢
  simp only [oV, List.length_map]
  have hz : (v.ks.map (oK n)).any isz = false := by
    rw [List.any_eq_false]
    intro k hk
    obtain ⟨j, _, rfl⟩ := List.mem_map.1 hk
    have := oK_ok n j
    unfold isz
    simp
    omega
  rw [hz]
  simp only [Bool.and_eq_true] at h ⊢
  obtain ⟨h1, h2, h3⟩ := h
  exact ⟨h1, h2, by simp only [Bool.not_eq_true', Bool.and_eq_true] at h3 ⊢; exact ⟨h3.1, trivial⟩⟩
theorem oV_len (n : Int) (v : Va) : (vaT (oV n v)).length = (vaT v).length := by
  unfold vaT valT
  simp only [oV]
  rw [List.length_append, List.length_append, idsT_len, idsT_len, List.length_map]
theorem value18o_c (v : Va) (n : Int) (hl : v.ks.length ≤ 1000000) (A : Option Addr) (c : Nat) (w : World) (hR : Rd w A (flat encU v.ks)) :
    Fc Tryz.prog 48 [vaV v A c, .int .u32 n] w fun z w' => ∃ A' c' Lv, z = vaV (oV n v) A' c' ∧ (∀ w'', Holds w'' Lv → Rd w'' A' (flat encU (oV n v).ks)) ∧ St [] w w' Lv := by
  refine fc_i TB_ok Tryz.func48 rfl (by kernel_rfl) ?_
  have hS := Sf.refl w
  repeat ((conv => whnf); first | (apply q_i; focus (intro w1 hS; (conv => whnf); first | exact ⟨rfl, rfl⟩ | ((refine ld_f hS 0 rfl rfl ?_); (conv => whnf); exact ⟨rfl, rfl⟩) | ((refine ld_f hS 1 rfl rfl ?_); (conv => whnf); exact ⟨rfl, rfl⟩) | ((refine ld_f hS 2 rfl rfl ?_); (conv => whnf); exact ⟨rfl, rfl⟩) | ((refine ldA_f hS 0 rfl rfl ?_); (conv => whnf); exact ⟨rfl, rfl⟩) | ((refine ldA_f hS 1 rfl rfl ?_); (conv => whnf); exact ⟨rfl, rfl⟩) | ((refine ldA_f hS 2 rfl rfl ?_); (conv => whnf); exact ⟨rfl, rfl⟩) | ((refine ldN_f hS 0 rfl (lb9 rfl) ?_); (conv => whnf); exact ⟨rfl, rfl⟩) | ((refine ldN_f hS 1 rfl (lb9 rfl) ?_); (conv => whnf); exact ⟨rfl, rfl⟩) | ((refine ldN_f hS 2 rfl (lb9 rfl) ?_); (conv => whnf); exact ⟨rfl, rfl⟩))) | (refine nw_f hS ?_; intro b w1 hS) | refine as_i hS ?_ | refine as_i (hS.subs (List.nil_sublist _) sb9) ?_ | refine as_i (hS.subs (List.Sublist.refl _) sb9) ?_ | refine bar_f hS ?_ | refine ld_f hS 0 rfl rfl ?_ | refine ld_f hS 1 rfl rfl ?_ | refine ld_f hS 2 rfl rfl ?_ | refine ldA_f hS 0 rfl rfl ?_ | refine ldA_f hS 1 rfl rfl ?_ | refine ldA_f hS 2 rfl rfl ?_ | (refine stN_f hS 0 rfl (lb9 rfl) rfl rfl ?_; (conv => whnf); intro w1 hS) | (refine stN_f hS 1 rfl (lb9 rfl) rfl rfl ?_; (conv => whnf); intro w1 hS) | (refine stN_f hS 2 rfl (lb9 rfl) rfl rfl ?_; (conv => whnf); intro w1 hS) | (refine stM_f hS 0 rfl (lb9 rfl) rfl ?_; (conv => whnf); intro w1 hS) | (refine stM_f hS 1 rfl (lb9 rfl) rfl ?_; (conv => whnf); intro w1 hS) | (refine stM_f hS 2 rfl (lb9 rfl) rfl ?_; (conv => whnf); intro w1 hS) | refine ldN_f hS 0 rfl (lb9 rfl) ?_ | refine ldN_f hS 1 rfl (lb9 rfl) ?_ | refine ldN_f hS 2 rfl (lb9 rfl) ?_ | (refine drawf TB_ok rfl (by kernel_rfl) (by kernel_rfl) hS (List.Sublist.refl _) (List.Sublist.refl _) ?_; intro w1 hS) | refine br_t (by assumption) ?_ | refine br_f (by assumption) ?_)
  replace hS : Sf [] w _ ([] ++ []) [(_, .cells #[.bool v.d, .int .i64 v.n, .slice none 0 0] 43 (0, 0)), _, (_, .cells #[.bool v.d, .int .i64 v.n, .slice A v.ks.length c] 43 (0, 0))] := hS
  refine loop_i TB_ok (fun i : Nat => [(6, .int .i64 i)]) (fun i w' => i ≤ v.ks.length ∧ ∃ B d Lv, Sl 32 1 (.slice B i d) i (flat encU ((v.ks.take i).map (oK n))) Lv ∧ Sf [] w w' (Lv ++ []) [(_, .cells #[.bool v.d, .int .i64 v.n, .slice B i d] 43 (0, 0)), _, (_, .cells #[.bool v.d, .int .i64 v.n, .slice A v.ks.length c] 43 (0, 0))]) (fun i => v.ks.length - i) 0 rfl ⟨Nat.zero_le _, none, 0, [], .nil, hS⟩ ?_
  rintro i us w2 ⟨hi, B, d, Lv, hv, hS⟩
  repeat ((conv => whnf); first | (apply q_i; focus (intro w1 hS; (conv => whnf); first | exact ⟨rfl, rfl⟩ | ((refine ld_f hS 0 rfl rfl ?_); (conv => whnf); exact ⟨rfl, rfl⟩) | ((refine ld_f hS 1 rfl rfl ?_); (conv => whnf); exact ⟨rfl, rfl⟩) | ((refine ld_f hS 2 rfl rfl ?_); (conv => whnf); exact ⟨rfl, rfl⟩) | ((refine ldA_f hS 0 rfl rfl ?_); (conv => whnf); exact ⟨rfl, rfl⟩) | ((refine ldA_f hS 1 rfl rfl ?_); (conv => whnf); exact ⟨rfl, rfl⟩) | ((refine ldA_f hS 2 rfl rfl ?_); (conv => whnf); exact ⟨rfl, rfl⟩))) | (refine nw_f hS ?_; intro b w1 hS) | refine as_i hS ?_ | refine as_i (hS.subs (List.nil_sublist _) sb9) ?_ | refine as_i (hS.subs (List.Sublist.refl _) sb9) ?_ | refine bar_f hS ?_ | refine ld_f hS 0 rfl rfl ?_ | refine ld_f hS 1 rfl rfl ?_ | refine ld_f hS 2 rfl rfl ?_ | refine ldA_f hS 0 rfl rfl ?_ | refine ldA_f hS 1 rfl rfl ?_ | refine ldA_f hS 2 rfl rfl ?_ | (refine stN_f hS 0 rfl (lb9 rfl) rfl rfl ?_; (conv => whnf); intro w1 hS) | (refine stN_f hS 1 rfl (lb9 rfl) rfl rfl ?_; (conv => whnf); intro w1 hS) | (refine stN_f hS 2 rfl (lb9 rfl) rfl rfl ?_; (conv => whnf); intro w1 hS) | (refine stM_f hS 0 rfl (lb9 rfl) rfl ?_; (conv => whnf); intro w1 hS) | (refine stM_f hS 1 rfl (lb9 rfl) rfl ?_; (conv => whnf); intro w1 hS) | (refine stM_f hS 2 rfl (lb9 rfl) rfl ?_; (conv => whnf); intro w1 hS) | (refine drawf TB_ok rfl (by kernel_rfl) (by kernel_rfl) hS (List.Sublist.refl _) (List.Sublist.refl _) ?_; intro w1 hS) | refine br_t (by assumption) ?_ | refine br_f (by assumption) ?_)
  (conv => whnf)
  refine br_i (fun hb => ?_) (fun hb => ?_)
  · have hlt : i < v.ks.length := by have := of_decide_eq_true hb; omega
    obtain ⟨x0, off, hA⟩ := hR.form (flat_ne encU_len (by omega) hlt)
    have hRA : ∀ {w' : World}, St [] w w' [] → Rd w' (some ⟨x0, off, none⟩) (flat encU v.ks) := fun {w'} hs => by
      have := hR.below hs
      rwa [hA] at this
    have hld : ∀ {w' : World} {K : Value → Prop}, St [] w w' [] → K (.int .u32 v.ks[i]) → Ld w' ⟨x0, off + (i : Int).toNat * 1, none⟩ K := fun {w' K} hs hk => ld_el encU_len (hRA hs).at (i := i) (k := 0) hlt (by omega) (by omega) rfl hk
    repeat ((conv => whnf); first | (apply q_i; focus (intro w1 hS; (conv => whnf); first | exact ⟨rfl, rfl⟩ | ((refine ld_f hS 0 rfl rfl ?_); (conv => whnf); exact ⟨rfl, rfl⟩) | ((refine ld_f hS 1 rfl rfl ?_); (conv => whnf); exact ⟨rfl, rfl⟩) | ((refine ld_f hS 2 rfl rfl ?_); (conv => whnf); exact ⟨rfl, rfl⟩) | ((refine ldA_f hS 0 rfl rfl ?_); (conv => whnf); exact ⟨rfl, rfl⟩) | ((refine ldA_f hS 1 rfl rfl ?_); (conv => whnf); exact ⟨rfl, rfl⟩) | ((refine ldA_f hS 2 rfl rfl ?_); (conv => whnf); exact ⟨rfl, rfl⟩))) | (refine nw_f hS ?_; intro b w1 hS) | refine as_i hS ?_ | refine as_i (hS.subs (List.nil_sublist _) sb9) ?_ | refine as_i (hS.subs (List.Sublist.refl _) sb9) ?_ | refine bar_f hS ?_ | refine ld_f hS 0 rfl rfl ?_ | refine ld_f hS 1 rfl rfl ?_ | refine ld_f hS 2 rfl rfl ?_ | refine ldA_f hS 0 rfl rfl ?_ | refine ldA_f hS 1 rfl rfl ?_ | refine ldA_f hS 2 rfl rfl ?_ | (refine stN_f hS 0 rfl (lb9 rfl) rfl rfl ?_; (conv => whnf); intro w1 hS) | (refine stN_f hS 1 rfl (lb9 rfl) rfl rfl ?_; (conv => whnf); intro w1 hS) | (refine stN_f hS 2 rfl (lb9 rfl) rfl rfl ?_; (conv => whnf); intro w1 hS) | (refine stM_f hS 0 rfl (lb9 rfl) rfl ?_; (conv => whnf); intro w1 hS) | (refine stM_f hS 1 rfl (lb9 rfl) rfl ?_; (conv => whnf); intro w1 hS) | (refine stM_f hS 2 rfl (lb9 rfl) rfl ?_; (conv => whnf); intro w1 hS) | refine br_t (by assumption) ?_ | refine br_f (by assumption) ?_)
    refine drawf TB_ok rfl (by kernel_rfl) (by kernel_rfl) hS (List.nil_sublist _) (List.Sublist.refl _) ?_; intro w3 hS
    repeat ((conv => whnf); first | (apply q_i; focus (intro w1 hS; (conv => whnf); first | exact ⟨rfl, rfl⟩ | ((refine ld_f hS 0 rfl rfl ?_); (conv => whnf); exact ⟨rfl, rfl⟩) | ((refine ld_f hS 1 rfl rfl ?_); (conv => whnf); exact ⟨rfl, rfl⟩) | ((refine ld_f hS 2 rfl rfl ?_); (conv => whnf); exact ⟨rfl, rfl⟩) | ((refine ldA_f hS 0 rfl rfl ?_); (conv => whnf); exact ⟨rfl, rfl⟩) | ((refine ldA_f hS 1 rfl rfl ?_); (conv => whnf); exact ⟨rfl, rfl⟩) | ((refine ldA_f hS 2 rfl rfl ?_); (conv => whnf); exact ⟨rfl, rfl⟩) | ((refine .mk ⟨by omega, by omega⟩ ?_; refine ix_i hA ?_); (conv => whnf); exact ⟨rfl, rfl⟩) | ((refine hld hS.nil ?_); (conv => whnf); exact ⟨rfl, rfl⟩) | ((refine .mk (by decide) ?_); (conv => whnf); exact ⟨rfl, rfl⟩))) | (refine nw_f hS ?_; intro b w1 hS) | refine as_i hS ?_ | refine as_i (hS.subs (List.nil_sublist _) sb9) ?_ | refine as_i (hS.subs (List.Sublist.refl _) sb9) ?_ | refine bar_f hS ?_ | refine ld_f hS 0 rfl rfl ?_ | refine ld_f hS 1 rfl rfl ?_ | refine ld_f hS 2 rfl rfl ?_ | refine ldA_f hS 0 rfl rfl ?_ | refine ldA_f hS 1 rfl rfl ?_ | refine ldA_f hS 2 rfl rfl ?_ | (refine stN_f hS 0 rfl (lb9 rfl) rfl rfl ?_; (conv => whnf); intro w1 hS) | (refine stN_f hS 1 rfl (lb9 rfl) rfl rfl ?_; (conv => whnf); intro w1 hS) | (refine stN_f hS 2 rfl (lb9 rfl) rfl rfl ?_; (conv => whnf); intro w1 hS) | (refine stM_f hS 0 rfl (lb9 rfl) rfl ?_; (conv => whnf); intro w1 hS) | (refine stM_f hS 1 rfl (lb9 rfl) rfl ?_; (conv => whnf); intro w1 hS) | (refine stM_f hS 2 rfl (lb9 rfl) rfl ?_; (conv => whnf); intro w1 hS) | (refine .mk ⟨by omega, by omega⟩ ?_; refine ix_i hA ?_) | refine hld hS.nil ?_ | refine .mk (by decide) ?_ | (refine drawf TB_ok rfl (by kernel_rfl) (by kernel_rfl) hS (List.Sublist.refl _) (List.Sublist.refl _) ?_; intro w1 hS) | refine br_t (by assumption) ?_ | refine br_f (by assumption) ?_)
    (conv => whnf)
    refine app_f TB_ok elU hS hv (show Rd _ _ (flat encU [oK n v.ks[i]]) from hS.rd 0 rfl) rfl (fun y hy => by simp [flat, encU] at hy; rw [hy]; rfl) (by omega) (by omega) ?_
    intro v' Lv' w7 hv' hS
    obtain ⟨A', c', rfl, hv'⟩ := hv'.open
    repeat ((conv => whnf); first | (apply q_i; focus (intro w1 hS; (conv => whnf); first | exact ⟨rfl, rfl⟩ | ((refine ld_f hS 0 rfl rfl ?_); (conv => whnf); exact ⟨rfl, rfl⟩) | ((refine ld_f hS 1 rfl rfl ?_); (conv => whnf); exact ⟨rfl, rfl⟩) | ((refine ld_f hS 2 rfl rfl ?_); (conv => whnf); exact ⟨rfl, rfl⟩) | ((refine ld_f hS 3 rfl rfl ?_); (conv => whnf); exact ⟨rfl, rfl⟩) | ((refine ldA_f hS 0 rfl rfl ?_); (conv => whnf); exact ⟨rfl, rfl⟩) | ((refine ldA_f hS 1 rfl rfl ?_); (conv => whnf); exact ⟨rfl, rfl⟩) | ((refine ldA_f hS 2 rfl rfl ?_); (conv => whnf); exact ⟨rfl, rfl⟩) | ((refine ldA_f hS 3 rfl rfl ?_); (conv => whnf); exact ⟨rfl, rfl⟩))) | (refine nw_f hS ?_; intro b w1 hS) | refine as_i hS ?_ | refine as_i (hS.subs (List.nil_sublist _) sb9) ?_ | refine as_i (hS.subs (List.Sublist.refl _) sb9) ?_ | refine bar_f hS ?_ | refine ld_f hS 0 rfl rfl ?_ | refine ld_f hS 1 rfl rfl ?_ | refine ld_f hS 2 rfl rfl ?_ | refine ld_f hS 3 rfl rfl ?_ | refine ldA_f hS 0 rfl rfl ?_ | refine ldA_f hS 1 rfl rfl ?_ | refine ldA_f hS 2 rfl rfl ?_ | refine ldA_f hS 3 rfl rfl ?_ | (refine stN_f hS 0 rfl (lb9 rfl) rfl rfl ?_; (conv => whnf); intro w1 hS) | (refine stN_f hS 1 rfl (lb9 rfl) rfl rfl ?_; (conv => whnf); intro w1 hS) | (refine stN_f hS 2 rfl (lb9 rfl) rfl rfl ?_; (conv => whnf); intro w1 hS) | (refine stN_f hS 3 rfl (lb9 rfl) rfl rfl ?_; (conv => whnf); intro w1 hS) | (refine stM_f hS 0 rfl (lb9 rfl) rfl ?_; (conv => whnf); intro w1 hS) | (refine stM_f hS 1 rfl (lb9 rfl) rfl ?_; (conv => whnf); intro w1 hS) | (refine stM_f hS 2 rfl (lb9 rfl) rfl ?_; (conv => whnf); intro w1 hS) | (refine stM_f hS 3 rfl (lb9 rfl) rfl ?_; (conv => whnf); intro w1 hS) | (refine drawf TB_ok rfl (by kernel_rfl) (by kernel_rfl) hS (List.Sublist.refl _) (List.Sublist.refl _) ?_; intro w1 hS) | refine br_t (by assumption) ?_ | refine br_f (by assumption) ?_)
    refine ⟨rfl, i + 1, ?_, ⟨by omega, A', c', Lv', ?_, hS.subs (List.Sublist.refl _) (.cons _ (.refl _))⟩, by omega⟩
    · rw [wi hlt (by omega)]
      rfl
    · rw [List.take_succ_eq_append_getElem hlt, List.map_append, flat_append]
      exact hv'
  · have hge : i = v.ks.length := by have := of_decide_eq_false hb; omega
    rw [hge, List.take_length] at hv
    rw [hge] at hS
    repeat ((conv => whnf); first | (apply q_i; focus (intro w1 hS; (conv => whnf); first | exact ⟨rfl, rfl⟩ | ((refine ld_f hS 0 rfl rfl ?_); (conv => whnf); exact ⟨rfl, rfl⟩) | ((refine ld_f hS 1 rfl rfl ?_); (conv => whnf); exact ⟨rfl, rfl⟩) | ((refine ld_f hS 2 rfl rfl ?_); (conv => whnf); exact ⟨rfl, rfl⟩) | ((refine ldA_f hS 0 rfl rfl ?_); (conv => whnf); exact ⟨rfl, rfl⟩) | ((refine ldA_f hS 1 rfl rfl ?_); (conv => whnf); exact ⟨rfl, rfl⟩) | ((refine ldA_f hS 2 rfl rfl ?_); (conv => whnf); exact ⟨rfl, rfl⟩) | ((refine ldN_f hS 0 rfl (lb9 rfl) ?_); (conv => whnf); exact ⟨rfl, rfl⟩))) | (refine nw_f hS ?_; intro b w1 hS) | refine as_i hS ?_ | refine as_i (hS.subs (List.nil_sublist _) sb9) ?_ | refine as_i (hS.subs (List.Sublist.refl _) sb9) ?_ | refine bar_f hS ?_ | refine ld_f hS 0 rfl rfl ?_ | refine ld_f hS 1 rfl rfl ?_ | refine ld_f hS 2 rfl rfl ?_ | refine ldA_f hS 0 rfl rfl ?_ | refine ldA_f hS 1 rfl rfl ?_ | refine ldA_f hS 2 rfl rfl ?_ | (refine stN_f hS 0 rfl (lb9 rfl) rfl rfl ?_; (conv => whnf); intro w1 hS) | (refine stN_f hS 1 rfl (lb9 rfl) rfl rfl ?_; (conv => whnf); intro w1 hS) | (refine stN_f hS 2 rfl (lb9 rfl) rfl rfl ?_; (conv => whnf); intro w1 hS) | (refine stM_f hS 0 rfl (lb9 rfl) rfl ?_; (conv => whnf); intro w1 hS) | (refine stM_f hS 1 rfl (lb9 rfl) rfl ?_; (conv => whnf); intro w1 hS) | (refine stM_f hS 2 rfl (lb9 rfl) rfl ?_; (conv => whnf); intro w1 hS) | refine ldN_f hS 0 rfl (lb9 rfl) ?_ | (refine drawf TB_ok rfl (by kernel_rfl) (by kernel_rfl) hS (List.Sublist.refl _) (List.Sublist.refl _) ?_; intro w1 hS) | refine br_t (by assumption) ?_ | refine br_f (by assumption) ?_)
    refine ⟨B, d, Lv, ?_, fun w'' hH => hv.rdK hH, by simpa using hS.fr (List.Sublist.refl _)⟩
    unfold vaV oV
    rw [List.length_map]
    rfl
end Go.RV

set_option maxRecDepth 20000
set_option linter.unusedVariables false
set_option linter.unusedSimpArgs false
namespace Go.RV
open Go Go.Proofs Go.RowKit

def o8 (n : Int) : Int := IntKind.u8.wrap (n.tmod 8)
def oH (n : Int) : Int := IntKind.u32.wrap (1 + IntKind.u32.wrap (n.tdiv 2))
def oS (n : Int) (s : Sv) : Sv := ⟨s.r, s.n, oV n s.v⟩
def oR (x : Rx) (n : Int) : Rx :=
  if x.k = 1 then { x with r := o8 n }
  else if x.k = 2 then { x with r := 0, n0 := n.tmod 1073741824, n1 := IntKind.u32.wrap (1 + n.tmod 1000), n2 := oH n }
  else if x.k = 3 then { x with r := 0, rk := IntKind.u8.wrap (n.tmod 2), ra := n, rq := IntKind.i64.wrap (n.tmod 1073741824) }
  else if x.k = 4 then { x with r := 0, xs := x.xs.map (oS n) }
  else if x.k = 5 then { x with r := 0, vi := oH n, vt := n.tmod 1073741824, vc := IntKind.u8.wrap (IntKind.u32.wrap (1 + n.tmod 4)), v := oV n x.v }
  else if x.k = 6 then { x with r := 0, vi := oH n }
  else if x.k = 7 then { x with r := 0, ci := oH n, cb := IntKind.i64.wrap (n.tmod 2048), cr := IntKind.i64.wrap (IntKind.u32.wrap (1 + n.tmod 65535)), cs := IntKind.i64.wrap (IntKind.u32.wrap (1 + n.tmod 64)) }
  else { x with r := o8 n }
def Oth (x : Rx) (h : Hd) (ms : List Sm) (n : Int) (z : Value) (Lv : LM) : Prop :=
  ∃ h' ms', z = recV (oR x n) h' ∧ ∀ w'', Holds w'' Lv → MemR w'' x h ms → MemR w'' (oR x n) h' ms'
theorem other1_c (x : Rx) (n : Int) (hk : x.k = 1 ∨ x.k = 8) (h : Hd) (ms : List Sm) (w : World) (hx : MemR w x h ms) :
    Fc Tryz.prog 21 [recV x h, .int .u32 n] w fun z w' => ∃ Lv, Oth x h ms n z Lv ∧ St [] w w' Lv := by
  have e : oR x n = { x with r := o8 n } := by
    unfold oR
    rcases hk with hk | hk <;> simp [hk]
  have g1 : (x.k != 1) = (x.k == 8) := by rcases hk with hk | hk <;> rw [hk] <;> rfl
  have g2 : (x.k == 2) = false := by rcases hk with hk | hk <;> rw [hk] <;> rfl
  have g3 : (x.k == 3) = false := by rcases hk with hk | hk <;> rw [hk] <;> rfl
  have g4 : (x.k == 4) = false := by rcases hk with hk | hk <;> rw [hk] <;> rfl
  have g5 : (x.k == 5) = false := by rcases hk with hk | hk <;> rw [hk] <;> rfl
  have g6 : (x.k == 6) = false := by rcases hk with hk | hk <;> rw [hk] <;> rfl
  have g7 : (x.k == 7) = false := by rcases hk with hk | hk <;> rw [hk] <;> rfl
  rcases hk with hk | hk
  · replace g1 : (x.k != 1) = false := by rw [hk]; rfl
    refine fc_i TB_ok Tryz.func21 rfl (by kernel_rfl) ?_
    have hS := Sf.refl w
    repeat ((conv => whnf); first | (apply q_i; focus (intro w1 hS; (conv => whnf); first | exact ⟨rfl, rfl⟩ | ((refine ld_f hS 0 rfl rfl ?_); (conv => whnf); exact ⟨rfl, rfl⟩) | ((refine ld_f hS 1 rfl rfl ?_); (conv => whnf); exact ⟨rfl, rfl⟩) | ((refine ld_f hS 2 rfl rfl ?_); (conv => whnf); exact ⟨rfl, rfl⟩) | ((refine ldA_f hS 0 rfl rfl ?_); (conv => whnf); exact ⟨rfl, rfl⟩) | ((refine ldA_f hS 1 rfl rfl ?_); (conv => whnf); exact ⟨rfl, rfl⟩) | ((refine ldA_f hS 2 rfl rfl ?_); (conv => whnf); exact ⟨rfl, rfl⟩) | ((refine .mk (by decide) ?_); (conv => whnf); exact ⟨rfl, rfl⟩) | ((refine ldN_f hS 0 rfl (lb9 rfl) ?_); (conv => whnf); exact ⟨rfl, rfl⟩) | ((refine ldN_f hS 1 rfl (lb9 rfl) ?_); (conv => whnf); exact ⟨rfl, rfl⟩) | ((refine ldN_f hS 2 rfl (lb9 rfl) ?_); (conv => whnf); exact ⟨rfl, rfl⟩))) | (refine nw_f hS ?_; intro b w1 hS) | refine as_i hS ?_ | refine as_i (hS.subs (List.nil_sublist _) sb9) ?_ | refine as_i (hS.subs (List.Sublist.refl _) sb9) ?_ | refine bar_f hS ?_ | refine ld_f hS 0 rfl rfl ?_ | refine ld_f hS 1 rfl rfl ?_ | refine ld_f hS 2 rfl rfl ?_ | refine ldA_f hS 0 rfl rfl ?_ | refine ldA_f hS 1 rfl rfl ?_ | refine ldA_f hS 2 rfl rfl ?_ | (refine stN_f hS 0 rfl (lb9 rfl) rfl rfl ?_; (conv => whnf); intro w1 hS) | (refine stN_f hS 1 rfl (lb9 rfl) rfl rfl ?_; (conv => whnf); intro w1 hS) | (refine stN_f hS 2 rfl (lb9 rfl) rfl rfl ?_; (conv => whnf); intro w1 hS) | (refine stM_f hS 0 rfl (lb9 rfl) rfl ?_; (conv => whnf); intro w1 hS) | (refine stM_f hS 1 rfl (lb9 rfl) rfl ?_; (conv => whnf); intro w1 hS) | (refine stM_f hS 2 rfl (lb9 rfl) rfl ?_; (conv => whnf); intro w1 hS) | refine .mk (by decide) ?_ | refine ldN_f hS 0 rfl (lb9 rfl) ?_ | refine ldN_f hS 1 rfl (lb9 rfl) ?_ | refine ldN_f hS 2 rfl (lb9 rfl) ?_ | (refine drawf TB_ok rfl (by kernel_rfl) (by kernel_rfl) hS (List.Sublist.refl _) (List.Sublist.refl _) ?_; intro w1 hS) | refine br_t (by assumption) ?_ | refine br_f (by assumption) ?_)
    exact ⟨[], ⟨h, ms, by rw [e]; rfl, fun w'' _ hm => by rw [e]; exact ⟨hm.eq, hm.l, hm.v⟩⟩, by simpa using hS.fr (List.Sublist.refl _)⟩
  · replace g1 : (x.k != 1) = true := by rw [hk]; rfl
    have g8 : (x.k != 8) = false := by rw [hk]; rfl
    refine fc_i TB_ok Tryz.func21 rfl (by kernel_rfl) ?_
    have hS := Sf.refl w
    repeat ((conv => whnf); first | (apply q_i; focus (intro w1 hS; (conv => whnf); first | exact ⟨rfl, rfl⟩ | ((refine ld_f hS 0 rfl rfl ?_); (conv => whnf); exact ⟨rfl, rfl⟩) | ((refine ld_f hS 1 rfl rfl ?_); (conv => whnf); exact ⟨rfl, rfl⟩) | ((refine ld_f hS 2 rfl rfl ?_); (conv => whnf); exact ⟨rfl, rfl⟩) | ((refine ldA_f hS 0 rfl rfl ?_); (conv => whnf); exact ⟨rfl, rfl⟩) | ((refine ldA_f hS 1 rfl rfl ?_); (conv => whnf); exact ⟨rfl, rfl⟩) | ((refine ldA_f hS 2 rfl rfl ?_); (conv => whnf); exact ⟨rfl, rfl⟩) | ((refine .mk (by decide) ?_); (conv => whnf); exact ⟨rfl, rfl⟩) | ((refine ldN_f hS 0 rfl (lb9 rfl) ?_); (conv => whnf); exact ⟨rfl, rfl⟩) | ((refine ldN_f hS 1 rfl (lb9 rfl) ?_); (conv => whnf); exact ⟨rfl, rfl⟩) | ((refine ldN_f hS 2 rfl (lb9 rfl) ?_); (conv => whnf); exact ⟨rfl, rfl⟩))) | (refine nw_f hS ?_; intro b w1 hS) | refine as_i hS ?_ | refine as_i (hS.subs (List.nil_sublist _) sb9) ?_ | refine as_i (hS.subs (List.Sublist.refl _) sb9) ?_ | refine bar_f hS ?_ | refine ld_f hS 0 rfl rfl ?_ | refine ld_f hS 1 rfl rfl ?_ | refine ld_f hS 2 rfl rfl ?_ | refine ldA_f hS 0 rfl rfl ?_ | refine ldA_f hS 1 rfl rfl ?_ | refine ldA_f hS 2 rfl rfl ?_ | (refine stN_f hS 0 rfl (lb9 rfl) rfl rfl ?_; (conv => whnf); intro w1 hS) | (refine stN_f hS 1 rfl (lb9 rfl) rfl rfl ?_; (conv => whnf); intro w1 hS) | (refine stN_f hS 2 rfl (lb9 rfl) rfl rfl ?_; (conv => whnf); intro w1 hS) | (refine stM_f hS 0 rfl (lb9 rfl) rfl ?_; (conv => whnf); intro w1 hS) | (refine stM_f hS 1 rfl (lb9 rfl) rfl ?_; (conv => whnf); intro w1 hS) | (refine stM_f hS 2 rfl (lb9 rfl) rfl ?_; (conv => whnf); intro w1 hS) | refine .mk (by decide) ?_ | refine ldN_f hS 0 rfl (lb9 rfl) ?_ | refine ldN_f hS 1 rfl (lb9 rfl) ?_ | refine ldN_f hS 2 rfl (lb9 rfl) ?_ | (refine drawf TB_ok rfl (by kernel_rfl) (by kernel_rfl) hS (List.Sublist.refl _) (List.Sublist.refl _) ?_; intro w1 hS) | refine br_t (by assumption) ?_ | refine br_f (by assumption) ?_)
    exact ⟨[], ⟨h, ms, by rw [e]; rfl, fun w'' _ hm => by rw [e]; exact ⟨hm.eq, hm.l, hm.v⟩⟩, by simpa using hS.fr (List.Sublist.refl _)⟩
theorem other2_c (x : Rx) (n : Int) (hk : x.k = 2) (h : Hd) (ms : List Sm) (w : World) (hx : MemR w x h ms) :
    Fc Tryz.prog 21 [recV x h, .int .u32 n] w fun z w' => ∃ Lv, Oth x h ms n z Lv ∧ St [] w w' Lv := by
  have e : oR x n = { x with r := 0, n0 := n.tmod 1073741824, n1 := IntKind.u32.wrap (1 + n.tmod 1000), n2 := oH n } := by
    unfold oR
    simp [hk]
  have ga : (x.k != 1) = true := by rw [hk]; rfl
  have gb : (x.k != 8) = true := by rw [hk]; rfl
  have g2 : (x.k == 2) = true := by rw [hk]; rfl
  have g3 : (x.k == 3) = false := by rw [hk]; rfl
  have g4 : (x.k == 4) = false := by rw [hk]; rfl
  have g5 : (x.k == 5) = false := by rw [hk]; rfl
  have g6 : (x.k == 6) = false := by rw [hk]; rfl
  have g7 : (x.k == 7) = false := by rw [hk]; rfl
  refine fc_i TB_ok Tryz.func21 rfl (by kernel_rfl) ?_
  have hS := Sf.refl w
  repeat ((conv => whnf); first | (apply q_i; focus (intro w1 hS; (conv => whnf); first | exact ⟨rfl, rfl⟩ | ((refine ld_f hS 0 rfl rfl ?_); (conv => whnf); exact ⟨rfl, rfl⟩) | ((refine ld_f hS 1 rfl rfl ?_); (conv => whnf); exact ⟨rfl, rfl⟩) | ((refine ld_f hS 2 rfl rfl ?_); (conv => whnf); exact ⟨rfl, rfl⟩) | ((refine ldA_f hS 0 rfl rfl ?_); (conv => whnf); exact ⟨rfl, rfl⟩) | ((refine ldA_f hS 1 rfl rfl ?_); (conv => whnf); exact ⟨rfl, rfl⟩) | ((refine ldA_f hS 2 rfl rfl ?_); (conv => whnf); exact ⟨rfl, rfl⟩) | ((refine .mk (by decide) ?_); (conv => whnf); exact ⟨rfl, rfl⟩) | ((refine ldN_f hS 0 rfl (lb9 rfl) ?_); (conv => whnf); exact ⟨rfl, rfl⟩) | ((refine ldN_f hS 1 rfl (lb9 rfl) ?_); (conv => whnf); exact ⟨rfl, rfl⟩) | ((refine ldN_f hS 2 rfl (lb9 rfl) ?_); (conv => whnf); exact ⟨rfl, rfl⟩))) | (refine nw_f hS ?_; intro b w1 hS) | refine as_i hS ?_ | refine as_i (hS.subs (List.nil_sublist _) sb9) ?_ | refine as_i (hS.subs (List.Sublist.refl _) sb9) ?_ | refine bar_f hS ?_ | refine ld_f hS 0 rfl rfl ?_ | refine ld_f hS 1 rfl rfl ?_ | refine ld_f hS 2 rfl rfl ?_ | refine ldA_f hS 0 rfl rfl ?_ | refine ldA_f hS 1 rfl rfl ?_ | refine ldA_f hS 2 rfl rfl ?_ | (refine stN_f hS 0 rfl (lb9 rfl) rfl rfl ?_; (conv => whnf); intro w1 hS) | (refine stN_f hS 1 rfl (lb9 rfl) rfl rfl ?_; (conv => whnf); intro w1 hS) | (refine stN_f hS 2 rfl (lb9 rfl) rfl rfl ?_; (conv => whnf); intro w1 hS) | (refine stM_f hS 0 rfl (lb9 rfl) rfl ?_; (conv => whnf); intro w1 hS) | (refine stM_f hS 1 rfl (lb9 rfl) rfl ?_; (conv => whnf); intro w1 hS) | (refine stM_f hS 2 rfl (lb9 rfl) rfl ?_; (conv => whnf); intro w1 hS) | refine .mk (by decide) ?_ | refine ldN_f hS 0 rfl (lb9 rfl) ?_ | refine ldN_f hS 1 rfl (lb9 rfl) ?_ | refine ldN_f hS 2 rfl (lb9 rfl) ?_ | (refine drawf TB_ok rfl (by kernel_rfl) (by kernel_rfl) hS (List.Sublist.refl _) (List.Sublist.refl _) ?_; intro w1 hS) | refine br_t (by assumption) ?_ | refine br_f (by assumption) ?_)
  exact ⟨[], ⟨h, ms, by rw [e]; rfl, fun w'' _ hm => by rw [e]; exact ⟨hm.eq, hm.l, hm.v⟩⟩, by simpa using hS.fr (List.Sublist.refl _)⟩
theorem other3_c (x : Rx) (n : Int) (hk : x.k = 3) (h : Hd) (ms : List Sm) (w : World) (hx : MemR w x h ms) :
    Fc Tryz.prog 21 [recV x h, .int .u32 n] w fun z w' => ∃ Lv, Oth x h ms n z Lv ∧ St [] w w' Lv := by
  have e : oR x n = { x with r := 0, rk := IntKind.u8.wrap (n.tmod 2), ra := n, rq := IntKind.i64.wrap (n.tmod 1073741824) } := by
    unfold oR
    simp [hk]
  have ga : (x.k != 1) = true := by rw [hk]; rfl
  have gb : (x.k != 8) = true := by rw [hk]; rfl
  have g2 : (x.k == 2) = false := by rw [hk]; rfl
  have g3 : (x.k == 3) = true := by rw [hk]; rfl
  have g4 : (x.k == 4) = false := by rw [hk]; rfl
  have g5 : (x.k == 5) = false := by rw [hk]; rfl
  have g6 : (x.k == 6) = false := by rw [hk]; rfl
  have g7 : (x.k == 7) = false := by rw [hk]; rfl
  refine fc_i TB_ok Tryz.func21 rfl (by kernel_rfl) ?_
  have hS := Sf.refl w
  repeat ((conv => whnf); first | (apply q_i; focus (intro w1 hS; (conv => whnf); first | exact ⟨rfl, rfl⟩ | ((refine ld_f hS 0 rfl rfl ?_); (conv => whnf); exact ⟨rfl, rfl⟩) | ((refine ld_f hS 1 rfl rfl ?_); (conv => whnf); exact ⟨rfl, rfl⟩) | ((refine ld_f hS 2 rfl rfl ?_); (conv => whnf); exact ⟨rfl, rfl⟩) | ((refine ldA_f hS 0 rfl rfl ?_); (conv => whnf); exact ⟨rfl, rfl⟩) | ((refine ldA_f hS 1 rfl rfl ?_); (conv => whnf); exact ⟨rfl, rfl⟩) | ((refine ldA_f hS 2 rfl rfl ?_); (conv => whnf); exact ⟨rfl, rfl⟩) | ((refine .mk (by decide) ?_); (conv => whnf); exact ⟨rfl, rfl⟩) | ((refine ldN_f hS 0 rfl (lb9 rfl) ?_); (conv => whnf); exact ⟨rfl, rfl⟩) | ((refine ldN_f hS 1 rfl (lb9 rfl) ?_); (conv => whnf); exact ⟨rfl, rfl⟩) | ((refine ldN_f hS 2 rfl (lb9 rfl) ?_); (conv => whnf); exact ⟨rfl, rfl⟩))) | (refine nw_f hS ?_; intro b w1 hS) | refine as_i hS ?_ | refine as_i (hS.subs (List.nil_sublist _) sb9) ?_ | refine as_i (hS.subs (List.Sublist.refl _) sb9) ?_ | refine bar_f hS ?_ | refine ld_f hS 0 rfl rfl ?_ | refine ld_f hS 1 rfl rfl ?_ | refine ld_f hS 2 rfl rfl ?_ | refine ldA_f hS 0 rfl rfl ?_ | refine ldA_f hS 1 rfl rfl ?_ | refine ldA_f hS 2 rfl rfl ?_ | (refine stN_f hS 0 rfl (lb9 rfl) rfl rfl ?_; (conv => whnf); intro w1 hS) | (refine stN_f hS 1 rfl (lb9 rfl) rfl rfl ?_; (conv => whnf); intro w1 hS) | (refine stN_f hS 2 rfl (lb9 rfl) rfl rfl ?_; (conv => whnf); intro w1 hS) | (refine stM_f hS 0 rfl (lb9 rfl) rfl ?_; (conv => whnf); intro w1 hS) | (refine stM_f hS 1 rfl (lb9 rfl) rfl ?_; (conv => whnf); intro w1 hS) | (refine stM_f hS 2 rfl (lb9 rfl) rfl ?_; (conv => whnf); intro w1 hS) | refine .mk (by decide) ?_ | refine ldN_f hS 0 rfl (lb9 rfl) ?_ | refine ldN_f hS 1 rfl (lb9 rfl) ?_ | refine ldN_f hS 2 rfl (lb9 rfl) ?_ | (refine drawf TB_ok rfl (by kernel_rfl) (by kernel_rfl) hS (List.Sublist.refl _) (List.Sublist.refl _) ?_; intro w1 hS) | refine br_t (by assumption) ?_ | refine br_f (by assumption) ?_)
  exact ⟨[], ⟨h, ms, by rw [e]; rfl, fun w'' _ hm => by rw [e]; exact ⟨hm.eq, hm.l, hm.v⟩⟩, by simpa using hS.fr (List.Sublist.refl _)⟩
theorem other6_c (x : Rx) (n : Int) (hk : x.k = 6) (h : Hd) (ms : List Sm) (w : World) (hx : MemR w x h ms) :
    Fc Tryz.prog 21 [recV x h, .int .u32 n] w fun z w' => ∃ Lv, Oth x h ms n z Lv ∧ St [] w w' Lv := by
  have e : oR x n = { x with r := 0, vi := oH n } := by
    unfold oR
    simp [hk]
  have ga : (x.k != 1) = true := by rw [hk]; rfl
  have gb : (x.k != 8) = true := by rw [hk]; rfl
  have g2 : (x.k == 2) = false := by rw [hk]; rfl
  have g3 : (x.k == 3) = false := by rw [hk]; rfl
  have g4 : (x.k == 4) = false := by rw [hk]; rfl
  have g5 : (x.k == 5) = false := by rw [hk]; rfl
  have g6 : (x.k == 6) = true := by rw [hk]; rfl
  have g7 : (x.k == 7) = false := by rw [hk]; rfl
  refine fc_i TB_ok Tryz.func21 rfl (by kernel_rfl) ?_
  have hS := Sf.refl w
  repeat ((conv => whnf); first | (apply q_i; focus (intro w1 hS; (conv => whnf); first | exact ⟨rfl, rfl⟩ | ((refine ld_f hS 0 rfl rfl ?_); (conv => whnf); exact ⟨rfl, rfl⟩) | ((refine ld_f hS 1 rfl rfl ?_); (conv => whnf); exact ⟨rfl, rfl⟩) | ((refine ld_f hS 2 rfl rfl ?_); (conv => whnf); exact ⟨rfl, rfl⟩) | ((refine ldA_f hS 0 rfl rfl ?_); (conv => whnf); exact ⟨rfl, rfl⟩) | ((refine ldA_f hS 1 rfl rfl ?_); (conv => whnf); exact ⟨rfl, rfl⟩) | ((refine ldA_f hS 2 rfl rfl ?_); (conv => whnf); exact ⟨rfl, rfl⟩) | ((refine .mk (by decide) ?_); (conv => whnf); exact ⟨rfl, rfl⟩) | ((refine ldN_f hS 0 rfl (lb9 rfl) ?_); (conv => whnf); exact ⟨rfl, rfl⟩) | ((refine ldN_f hS 1 rfl (lb9 rfl) ?_); (conv => whnf); exact ⟨rfl, rfl⟩) | ((refine ldN_f hS 2 rfl (lb9 rfl) ?_); (conv => whnf); exact ⟨rfl, rfl⟩))) | (refine nw_f hS ?_; intro b w1 hS) | refine as_i hS ?_ | refine as_i (hS.subs (List.nil_sublist _) sb9) ?_ | refine as_i (hS.subs (List.Sublist.refl _) sb9) ?_ | refine bar_f hS ?_ | refine ld_f hS 0 rfl rfl ?_ | refine ld_f hS 1 rfl rfl ?_ | refine ld_f hS 2 rfl rfl ?_ | refine ldA_f hS 0 rfl rfl ?_ | refine ldA_f hS 1 rfl rfl ?_ | refine ldA_f hS 2 rfl rfl ?_ | (refine stN_f hS 0 rfl (lb9 rfl) rfl rfl ?_; (conv => whnf); intro w1 hS) | (refine stN_f hS 1 rfl (lb9 rfl) rfl rfl ?_; (conv => whnf); intro w1 hS) | (refine stN_f hS 2 rfl (lb9 rfl) rfl rfl ?_; (conv => whnf); intro w1 hS) | (refine stM_f hS 0 rfl (lb9 rfl) rfl ?_; (conv => whnf); intro w1 hS) | (refine stM_f hS 1 rfl (lb9 rfl) rfl ?_; (conv => whnf); intro w1 hS) | (refine stM_f hS 2 rfl (lb9 rfl) rfl ?_; (conv => whnf); intro w1 hS) | refine .mk (by decide) ?_ | refine ldN_f hS 0 rfl (lb9 rfl) ?_ | refine ldN_f hS 1 rfl (lb9 rfl) ?_ | refine ldN_f hS 2 rfl (lb9 rfl) ?_ | (refine drawf TB_ok rfl (by kernel_rfl) (by kernel_rfl) hS (List.Sublist.refl _) (List.Sublist.refl _) ?_; intro w1 hS) | refine br_t (by assumption) ?_ | refine br_f (by assumption) ?_)
  exact ⟨[], ⟨h, ms, by rw [e]; rfl, fun w'' _ hm => by rw [e]; exact ⟨hm.eq, hm.l, hm.v⟩⟩, by simpa using hS.fr (List.Sublist.refl _)⟩
theorem other7_c (x : Rx) (n : Int) (hk : x.k = 7) (h : Hd) (ms : List Sm) (w : World) (hx : MemR w x h ms) :
    Fc Tryz.prog 21 [recV x h, .int .u32 n] w fun z w' => ∃ Lv, Oth x h ms n z Lv ∧ St [] w w' Lv := by
  have e : oR x n = { x with r := 0, ci := oH n, cb := IntKind.i64.wrap (n.tmod 2048), cr := IntKind.i64.wrap (IntKind.u32.wrap (1 + n.tmod 65535)), cs := IntKind.i64.wrap (IntKind.u32.wrap (1 + n.tmod 64)) } := by
    unfold oR
    simp [hk]
  have ga : (x.k != 1) = true := by rw [hk]; rfl
  have gb : (x.k != 8) = true := by rw [hk]; rfl
  have g2 : (x.k == 2) = false := by rw [hk]; rfl
  have g3 : (x.k == 3) = false := by rw [hk]; rfl
  have g4 : (x.k == 4) = false := by rw [hk]; rfl
  have g5 : (x.k == 5) = false := by rw [hk]; rfl
  have g6 : (x.k == 6) = false := by rw [hk]; rfl
  have g7 : (x.k == 7) = true := by rw [hk]; rfl
  refine fc_i TB_ok Tryz.func21 rfl (by kernel_rfl) ?_
  have hS := Sf.refl w
  repeat ((conv => whnf); first | (apply q_i; focus (intro w1 hS; (conv => whnf); first | exact ⟨rfl, rfl⟩ | ((refine ld_f hS 0 rfl rfl ?_); (conv => whnf); exact ⟨rfl, rfl⟩) | ((refine ld_f hS 1 rfl rfl ?_); (conv => whnf); exact ⟨rfl, rfl⟩) | ((refine ld_f hS 2 rfl rfl ?_); (conv => whnf); exact ⟨rfl, rfl⟩) | ((refine ldA_f hS 0 rfl rfl ?_); (conv => whnf); exact ⟨rfl, rfl⟩) | ((refine ldA_f hS 1 rfl rfl ?_); (conv => whnf); exact ⟨rfl, rfl⟩) | ((refine ldA_f hS 2 rfl rfl ?_); (conv => whnf); exact ⟨rfl, rfl⟩) | ((refine .mk (by decide) ?_); (conv => whnf); exact ⟨rfl, rfl⟩) | ((refine ldN_f hS 0 rfl (lb9 rfl) ?_); (conv => whnf); exact ⟨rfl, rfl⟩) | ((refine ldN_f hS 1 rfl (lb9 rfl) ?_); (conv => whnf); exact ⟨rfl, rfl⟩) | ((refine ldN_f hS 2 rfl (lb9 rfl) ?_); (conv => whnf); exact ⟨rfl, rfl⟩))) | (refine nw_f hS ?_; intro b w1 hS) | refine as_i hS ?_ | refine as_i (hS.subs (List.nil_sublist _) sb9) ?_ | refine as_i (hS.subs (List.Sublist.refl _) sb9) ?_ | refine bar_f hS ?_ | refine ld_f hS 0 rfl rfl ?_ | refine ld_f hS 1 rfl rfl ?_ | refine ld_f hS 2 rfl rfl ?_ | refine ldA_f hS 0 rfl rfl ?_ | refine ldA_f hS 1 rfl rfl ?_ | refine ldA_f hS 2 rfl rfl ?_ | (refine stN_f hS 0 rfl (lb9 rfl) rfl rfl ?_; (conv => whnf); intro w1 hS) | (refine stN_f hS 1 rfl (lb9 rfl) rfl rfl ?_; (conv => whnf); intro w1 hS) | (refine stN_f hS 2 rfl (lb9 rfl) rfl rfl ?_; (conv => whnf); intro w1 hS) | (refine stM_f hS 0 rfl (lb9 rfl) rfl ?_; (conv => whnf); intro w1 hS) | (refine stM_f hS 1 rfl (lb9 rfl) rfl ?_; (conv => whnf); intro w1 hS) | (refine stM_f hS 2 rfl (lb9 rfl) rfl ?_; (conv => whnf); intro w1 hS) | refine .mk (by decide) ?_ | refine ldN_f hS 0 rfl (lb9 rfl) ?_ | refine ldN_f hS 1 rfl (lb9 rfl) ?_ | refine ldN_f hS 2 rfl (lb9 rfl) ?_ | (refine drawf TB_ok rfl (by kernel_rfl) (by kernel_rfl) hS (List.Sublist.refl _) (List.Sublist.refl _) ?_; intro w1 hS) | refine br_t (by assumption) ?_ | refine br_f (by assumption) ?_)
  exact ⟨[], ⟨h, ms, by rw [e]; rfl, fun w'' _ hm => by rw [e]; exact ⟨hm.eq, hm.l, hm.v⟩⟩, by simpa using hS.fr (List.Sublist.refl _)⟩
theorem other5_c (x : Rx) (n : Int) (hk : x.k = 5) (h : Hd) (ms : List Sm) (hv : x.v.ks.length ≤ 1000000) (w : World) (hx : MemR w x h ms) :
    Fc Tryz.prog 21 [recV x h, .int .u32 n] w fun z w' => ∃ Lv, Oth x h ms n z Lv ∧ St [] w w' Lv := by
  have e : oR x n = { x with r := 0, vi := oH n, vt := n.tmod 1073741824, vc := IntKind.u8.wrap (IntKind.u32.wrap (1 + n.tmod 4)), v := oV n x.v } := by
    unfold oR
    simp [hk]
  have ga : (x.k != 1) = true := by rw [hk]; rfl
  have gb : (x.k != 8) = true := by rw [hk]; rfl
  have g2 : (x.k == 2) = false := by rw [hk]; rfl
  have g3 : (x.k == 3) = false := by rw [hk]; rfl
  have g4 : (x.k == 4) = false := by rw [hk]; rfl
  have g5 : (x.k == 5) = true := by rw [hk]; rfl
  have g6 : (x.k == 6) = false := by rw [hk]; rfl
  have g7 : (x.k == 7) = false := by rw [hk]; rfl
  have hval := fun (w' : World) => value18o_c x.v n hv h.B h.e w'
  refine fc_i TB_ok Tryz.func21 rfl (by kernel_rfl) ?_
  have hS := Sf.refl w
  repeat ((conv => whnf); first | (apply q_i; focus (intro w1 hS; (conv => whnf); first | exact ⟨rfl, rfl⟩ | ((refine ld_f hS 0 rfl rfl ?_); (conv => whnf); exact ⟨rfl, rfl⟩) | ((refine ld_f hS 1 rfl rfl ?_); (conv => whnf); exact ⟨rfl, rfl⟩) | ((refine ld_f hS 2 rfl rfl ?_); (conv => whnf); exact ⟨rfl, rfl⟩) | ((refine ldA_f hS 0 rfl rfl ?_); (conv => whnf); exact ⟨rfl, rfl⟩) | ((refine ldA_f hS 1 rfl rfl ?_); (conv => whnf); exact ⟨rfl, rfl⟩) | ((refine ldA_f hS 2 rfl rfl ?_); (conv => whnf); exact ⟨rfl, rfl⟩) | ((refine .mk (by decide) ?_); (conv => whnf); exact ⟨rfl, rfl⟩) | ((refine ldN_f hS 0 rfl (lb9 rfl) ?_); (conv => whnf); exact ⟨rfl, rfl⟩) | ((refine ldN_f hS 1 rfl (lb9 rfl) ?_); (conv => whnf); exact ⟨rfl, rfl⟩) | ((refine ldN_f hS 2 rfl (lb9 rfl) ?_); (conv => whnf); exact ⟨rfl, rfl⟩))) | (refine nw_f hS ?_; intro b w1 hS) | refine as_i hS ?_ | refine as_i (hS.subs (List.nil_sublist _) sb9) ?_ | refine as_i (hS.subs (List.Sublist.refl _) sb9) ?_ | refine bar_f hS ?_ | refine ld_f hS 0 rfl rfl ?_ | refine ld_f hS 1 rfl rfl ?_ | refine ld_f hS 2 rfl rfl ?_ | refine ldA_f hS 0 rfl rfl ?_ | refine ldA_f hS 1 rfl rfl ?_ | refine ldA_f hS 2 rfl rfl ?_ | (refine stN_f hS 0 rfl (lb9 rfl) rfl rfl ?_; (conv => whnf); intro w1 hS) | (refine stN_f hS 1 rfl (lb9 rfl) rfl rfl ?_; (conv => whnf); intro w1 hS) | (refine stN_f hS 2 rfl (lb9 rfl) rfl rfl ?_; (conv => whnf); intro w1 hS) | (refine stM_f hS 0 rfl (lb9 rfl) rfl ?_; (conv => whnf); intro w1 hS) | (refine stM_f hS 1 rfl (lb9 rfl) rfl ?_; (conv => whnf); intro w1 hS) | (refine stM_f hS 2 rfl (lb9 rfl) rfl ?_; (conv => whnf); intro w1 hS) | refine .mk (by decide) ?_ | refine ldN_f hS 0 rfl (lb9 rfl) ?_ | refine ldN_f hS 1 rfl (lb9 rfl) ?_ | refine ldN_f hS 2 rfl (lb9 rfl) ?_ | (refine drawf TB_ok rfl (by kernel_rfl) (by kernel_rfl) hS (List.Sublist.refl _) (List.Sublist.refl _) ?_; intro w1 hS) | refine br_t (by assumption) ?_ | refine br_f (by assumption) ?_)
  (conv => whnf)
  refine fc_m (hval _ (hx.v.below hS.nil)) ?_
  rintro z w5 ⟨B', e', Lv, rfl, hB, hS'⟩
  replace hS := hS.callF hS'
  repeat ((conv => whnf); first | (apply q_i; focus (intro w1 hS; (conv => whnf); first | exact ⟨rfl, rfl⟩ | ((refine ld_f hS 0 rfl rfl ?_); (conv => whnf); exact ⟨rfl, rfl⟩) | ((refine ld_f hS 1 rfl rfl ?_); (conv => whnf); exact ⟨rfl, rfl⟩) | ((refine ld_f hS 2 rfl rfl ?_); (conv => whnf); exact ⟨rfl, rfl⟩) | ((refine ldA_f hS 0 rfl rfl ?_); (conv => whnf); exact ⟨rfl, rfl⟩) | ((refine ldA_f hS 1 rfl rfl ?_); (conv => whnf); exact ⟨rfl, rfl⟩) | ((refine ldA_f hS 2 rfl rfl ?_); (conv => whnf); exact ⟨rfl, rfl⟩) | ((refine .mk (by decide) ?_); (conv => whnf); exact ⟨rfl, rfl⟩) | ((refine ldN_f hS 0 rfl (lb9 rfl) ?_); (conv => whnf); exact ⟨rfl, rfl⟩) | ((refine ldN_f hS 1 rfl (lb9 rfl) ?_); (conv => whnf); exact ⟨rfl, rfl⟩) | ((refine ldN_f hS 2 rfl (lb9 rfl) ?_); (conv => whnf); exact ⟨rfl, rfl⟩))) | (refine nw_f hS ?_; intro b w1 hS) | refine as_i hS ?_ | refine as_i (hS.subs (List.nil_sublist _) sb9) ?_ | refine as_i (hS.subs (List.Sublist.refl _) sb9) ?_ | refine bar_f hS ?_ | refine ld_f hS 0 rfl rfl ?_ | refine ld_f hS 1 rfl rfl ?_ | refine ld_f hS 2 rfl rfl ?_ | refine ldA_f hS 0 rfl rfl ?_ | refine ldA_f hS 1 rfl rfl ?_ | refine ldA_f hS 2 rfl rfl ?_ | (refine stN_f hS 0 rfl (lb9 rfl) rfl rfl ?_; (conv => whnf); intro w1 hS) | (refine stN_f hS 1 rfl (lb9 rfl) rfl rfl ?_; (conv => whnf); intro w1 hS) | (refine stN_f hS 2 rfl (lb9 rfl) rfl rfl ?_; (conv => whnf); intro w1 hS) | (refine stM_f hS 0 rfl (lb9 rfl) rfl ?_; (conv => whnf); intro w1 hS) | (refine stM_f hS 1 rfl (lb9 rfl) rfl ?_; (conv => whnf); intro w1 hS) | (refine stM_f hS 2 rfl (lb9 rfl) rfl ?_; (conv => whnf); intro w1 hS) | refine .mk (by decide) ?_ | refine ldN_f hS 0 rfl (lb9 rfl) ?_ | refine ldN_f hS 1 rfl (lb9 rfl) ?_ | refine ldN_f hS 2 rfl (lb9 rfl) ?_ | (refine drawf TB_ok rfl (by kernel_rfl) (by kernel_rfl) hS (List.Sublist.refl _) (List.Sublist.refl _) ?_; intro w1 hS) | refine br_t (by assumption) ?_ | refine br_f (by assumption) ?_)
  exact ⟨Lv, ⟨⟨h.A, h.c, B', e'⟩, ms, by rw [e]; rfl, fun w'' hH hm => by rw [e]; exact ⟨hm.eq, hm.l, hB w'' hH⟩⟩, by simpa using hS.fr (List.Sublist.refl _)⟩
end Go.RV

set_option maxRecDepth 20000
set_option linter.unusedVariables false
set_option linter.unusedSimpArgs false
namespace Go.RV
open Go Go.Proofs Go.RowKit

theorem other4_c (x : Rx) (n : Int) (hk : x.k = 4) (h : Hd) (ms : List Sm) (hxl : x.xs.length ≤ 1000000) (hel : ∀ s ∈ x.xs, s.v.ks.length ≤ 1000000) (w : World) (hx : MemR w x h ms) :
    Fc Tryz.prog 21 [recV x h, .int .u32 n] w fun z w' => ∃ Lv, Oth x h ms n z Lv ∧ St [] w w' Lv := by
  have e : oR x n = { x with r := 0, xs := x.xs.map (oS n) } := by
    unfold oR
    simp [hk]
  have ga : (x.k != 1) = true := by rw [hk]; rfl
  have gb : (x.k != 8) = true := by rw [hk]; rfl
  have g2 : (x.k == 2) = false := by rw [hk]; rfl
  have g3 : (x.k == 3) = false := by rw [hk]; rfl
  have g4 : (x.k == 4) = true := by rw [hk]; rfl
  have g5 : (x.k == 5) = false := by rw [hk]; rfl
  have g6 : (x.k == 6) = false := by rw [hk]; rfl
  have g7 : (x.k == 7) = false := by rw [hk]; rfl
  have hl := hx.len
  have hms : ∀ i (hi : i < ms.length), ms[i].s.v.ks.length ≤ 1000000 := fun i hi => hel _ (by rw [hx.eq]; exact List.mem_map_of_mem (List.getElem_mem hi))
  refine fc_i TB_ok Tryz.func21 rfl (by kernel_rfl) ?_
  have hS := Sf.refl w
  repeat ((conv => whnf); first | (apply q_i; focus (intro w1 hS; (conv => whnf); first | exact ⟨rfl, rfl⟩ | ((refine ld_f hS 0 rfl rfl ?_); (conv => whnf); exact ⟨rfl, rfl⟩) | ((refine ld_f hS 1 rfl rfl ?_); (conv => whnf); exact ⟨rfl, rfl⟩) | ((refine ld_f hS 2 rfl rfl ?_); (conv => whnf); exact ⟨rfl, rfl⟩) | ((refine ldA_f hS 0 rfl rfl ?_); (conv => whnf); exact ⟨rfl, rfl⟩) | ((refine ldA_f hS 1 rfl rfl ?_); (conv => whnf); exact ⟨rfl, rfl⟩) | ((refine ldA_f hS 2 rfl rfl ?_); (conv => whnf); exact ⟨rfl, rfl⟩) | ((refine .mk (by decide) ?_); (conv => whnf); exact ⟨rfl, rfl⟩) | ((refine ldN_f hS 0 rfl (lb9 rfl) ?_); (conv => whnf); exact ⟨rfl, rfl⟩) | ((refine ldN_f hS 1 rfl (lb9 rfl) ?_); (conv => whnf); exact ⟨rfl, rfl⟩) | ((refine ldN_f hS 2 rfl (lb9 rfl) ?_); (conv => whnf); exact ⟨rfl, rfl⟩))) | (refine nw_f hS ?_; intro b w1 hS) | refine as_i hS ?_ | refine as_i (hS.subs (List.nil_sublist _) sb9) ?_ | refine as_i (hS.subs (List.Sublist.refl _) sb9) ?_ | refine bar_f hS ?_ | refine ld_f hS 0 rfl rfl ?_ | refine ld_f hS 1 rfl rfl ?_ | refine ld_f hS 2 rfl rfl ?_ | refine ldA_f hS 0 rfl rfl ?_ | refine ldA_f hS 1 rfl rfl ?_ | refine ldA_f hS 2 rfl rfl ?_ | (refine stN_f hS 0 rfl (lb9 rfl) rfl rfl ?_; (conv => whnf); intro w1 hS) | (refine stN_f hS 1 rfl (lb9 rfl) rfl rfl ?_; (conv => whnf); intro w1 hS) | (refine stN_f hS 2 rfl (lb9 rfl) rfl rfl ?_; (conv => whnf); intro w1 hS) | (refine stM_f hS 0 rfl (lb9 rfl) rfl ?_; (conv => whnf); intro w1 hS) | (refine stM_f hS 1 rfl (lb9 rfl) rfl ?_; (conv => whnf); intro w1 hS) | (refine stM_f hS 2 rfl (lb9 rfl) rfl ?_; (conv => whnf); intro w1 hS) | refine .mk (by decide) ?_ | refine ldN_f hS 0 rfl (lb9 rfl) ?_ | refine ldN_f hS 1 rfl (lb9 rfl) ?_ | refine ldN_f hS 2 rfl (lb9 rfl) ?_ | (refine drawf TB_ok rfl (by kernel_rfl) (by kernel_rfl) hS (List.Sublist.refl _) (List.Sublist.refl _) ?_; intro w1 hS) | refine br_t (by assumption) ?_ | refine br_f (by assumption) ?_)
  replace hS : Sf [] w _ ([] ++ ([] ++ [])) [(_, .cells (recL0 { x with r := 0 } none 0 0 h.B h.e).toArray 49 (0, 0)), _, (_, .cells (recL x h).toArray 49 (0, 0))] := hS
  refine loop_i TB_ok (fun i : Nat => [(6, .int .i64 i)]) (fun i w' => i ≤ ms.length ∧ ∃ B d ns Lv Li, ns.map Sm.s = (x.xs.take i).map (oS n) ∧ (∀ w'', Holds w'' Li → ∀ m ∈ ns, Rd w'' m.A (flat encU m.s.v.ks)) ∧ Sl 94 5 (.slice B i d) i (flat encM ns) Lv ∧ Sf [] w w' (Lv ++ (Li ++ [])) [(_, .cells (recL0 { x with r := 0 } B i d h.B h.e).toArray 49 (0, 0)), _, (_, .cells (recL x h).toArray 49 (0, 0))]) (fun i => ms.length - i) 0 rfl ⟨Nat.zero_le _, none, 0, [], [], [], rfl, (fun _ _ m hm => (nomatch hm)), .nil, hS⟩ ?_
  rintro i us w2 ⟨hi, B, d, ns, Lv, Li, hns, hin, hv, hS⟩
  repeat ((conv => whnf); first | (apply q_i; focus (intro w1 hS; (conv => whnf); first | exact ⟨rfl, rfl⟩ | ((refine ld_f hS 0 rfl rfl ?_); (conv => whnf); exact ⟨rfl, rfl⟩) | ((refine ld_f hS 1 rfl rfl ?_); (conv => whnf); exact ⟨rfl, rfl⟩) | ((refine ld_f hS 2 rfl rfl ?_); (conv => whnf); exact ⟨rfl, rfl⟩) | ((refine ldA_f hS 0 rfl rfl ?_); (conv => whnf); exact ⟨rfl, rfl⟩) | ((refine ldA_f hS 1 rfl rfl ?_); (conv => whnf); exact ⟨rfl, rfl⟩) | ((refine ldA_f hS 2 rfl rfl ?_); (conv => whnf); exact ⟨rfl, rfl⟩))) | (refine nw_f hS ?_; intro b w1 hS) | refine as_i hS ?_ | refine as_i (hS.subs (List.nil_sublist _) sb9) ?_ | refine as_i (hS.subs (List.Sublist.refl _) sb9) ?_ | refine bar_f hS ?_ | refine ld_f hS 0 rfl rfl ?_ | refine ld_f hS 1 rfl rfl ?_ | refine ld_f hS 2 rfl rfl ?_ | refine ldA_f hS 0 rfl rfl ?_ | refine ldA_f hS 1 rfl rfl ?_ | refine ldA_f hS 2 rfl rfl ?_ | (refine stN_f hS 0 rfl (lb9 rfl) rfl rfl ?_; (conv => whnf); intro w1 hS) | (refine stN_f hS 1 rfl (lb9 rfl) rfl rfl ?_; (conv => whnf); intro w1 hS) | (refine stN_f hS 2 rfl (lb9 rfl) rfl rfl ?_; (conv => whnf); intro w1 hS) | (refine stM_f hS 0 rfl (lb9 rfl) rfl ?_; (conv => whnf); intro w1 hS) | (refine stM_f hS 1 rfl (lb9 rfl) rfl ?_; (conv => whnf); intro w1 hS) | (refine stM_f hS 2 rfl (lb9 rfl) rfl ?_; (conv => whnf); intro w1 hS) | (refine drawf TB_ok rfl (by kernel_rfl) (by kernel_rfl) hS (List.Sublist.refl _) (List.Sublist.refl _) ?_; intro w1 hS) | refine br_t (by assumption) ?_ | refine br_f (by assumption) ?_)
  (conv => whnf)
  refine br_i (fun hb => ?_) (fun hb => ?_)
  · have hlt : i < ms.length := by have := of_decide_eq_true hb; omega
    obtain ⟨x0, off, hA⟩ := hx.l.rd.form (flat_ne encM_len (by omega) hlt)
    have hRA : ∀ {w' : World}, St [] w w' [] → Rd w' (some ⟨x0, off, none⟩) (flat encM ms) := fun {w'} hs => by
      have := hx.l.rd.below hs
      rwa [hA] at this
    have hval := fun (w' : World) => value18o_c ms[i].s.v n (hms i hlt) ms[i].A ms[i].c w'
    have hxi : x.xs[i]'(by omega) = ms[i].s := by simp only [hx.eq, List.getElem_map]
    repeat ((conv => whnf); first | (apply q_i; focus (intro w1 hS; (conv => whnf); first | exact ⟨rfl, rfl⟩ | ((refine ld_f hS 0 rfl rfl ?_); (conv => whnf); exact ⟨rfl, rfl⟩) | ((refine ld_f hS 1 rfl rfl ?_); (conv => whnf); exact ⟨rfl, rfl⟩) | ((refine ld_f hS 2 rfl rfl ?_); (conv => whnf); exact ⟨rfl, rfl⟩) | ((refine ldA_f hS 0 rfl rfl ?_); (conv => whnf); exact ⟨rfl, rfl⟩) | ((refine ldA_f hS 1 rfl rfl ?_); (conv => whnf); exact ⟨rfl, rfl⟩) | ((refine ldA_f hS 2 rfl rfl ?_); (conv => whnf); exact ⟨rfl, rfl⟩))) | (refine nw_f hS ?_; intro b w1 hS) | refine as_i hS ?_ | refine as_i (hS.subs (List.nil_sublist _) sb9) ?_ | refine as_i (hS.subs (List.Sublist.refl _) sb9) ?_ | refine bar_f hS ?_ | refine ld_f hS 0 rfl rfl ?_ | refine ld_f hS 1 rfl rfl ?_ | refine ld_f hS 2 rfl rfl ?_ | refine ldA_f hS 0 rfl rfl ?_ | refine ldA_f hS 1 rfl rfl ?_ | refine ldA_f hS 2 rfl rfl ?_ | (refine stN_f hS 0 rfl (lb9 rfl) rfl rfl ?_; (conv => whnf); intro w1 hS) | (refine stN_f hS 1 rfl (lb9 rfl) rfl rfl ?_; (conv => whnf); intro w1 hS) | (refine stN_f hS 2 rfl (lb9 rfl) rfl rfl ?_; (conv => whnf); intro w1 hS) | (refine stM_f hS 0 rfl (lb9 rfl) rfl ?_; (conv => whnf); intro w1 hS) | (refine stM_f hS 1 rfl (lb9 rfl) rfl ?_; (conv => whnf); intro w1 hS) | (refine stM_f hS 2 rfl (lb9 rfl) rfl ?_; (conv => whnf); intro w1 hS) | refine br_t (by assumption) ?_ | refine br_f (by assumption) ?_)
    refine drawf TB_ok rfl (by kernel_rfl) (by kernel_rfl) hS (List.nil_sublist _) (List.Sublist.refl _) ?_; intro w3 hS
    repeat ((conv => whnf); first | (apply q_i; focus (intro w1 hS; (conv => whnf); first | exact ⟨rfl, rfl⟩ | ((refine ld_f hS 0 rfl rfl ?_); (conv => whnf); exact ⟨rfl, rfl⟩) | ((refine ld_f hS 1 rfl rfl ?_); (conv => whnf); exact ⟨rfl, rfl⟩) | ((refine ld_f hS 2 rfl rfl ?_); (conv => whnf); exact ⟨rfl, rfl⟩) | ((refine ldA_f hS 0 rfl rfl ?_); (conv => whnf); exact ⟨rfl, rfl⟩) | ((refine ldA_f hS 1 rfl rfl ?_); (conv => whnf); exact ⟨rfl, rfl⟩) | ((refine ldA_f hS 2 rfl rfl ?_); (conv => whnf); exact ⟨rfl, rfl⟩) | ((refine .mk ⟨by omega, by omega⟩ ?_; refine ix_i hA ?_); (conv => whnf); exact ⟨rfl, rfl⟩) | ((refine ldN_elp encM_len (hRA hS.nil).at (i := i) (j0 := 0) hlt rfl (lb9 rfl) [.int .u8 ms[i].s.r, .int .u32 ms[i].s.n] rfl ?_); (conv => whnf); exact ⟨rfl, rfl⟩) | ((refine ldN_elp encM_len (hRA hS.nil).at (i := i) (j0 := 2) hlt rfl (lb9 rfl) [.bool ms[i].s.v.d, .int .i64 ms[i].s.v.n, .slice ms[i].A ms[i].s.v.ks.length ms[i].c] rfl ?_); (conv => whnf); exact ⟨rfl, rfl⟩))) | (refine nw_f hS ?_; intro b w1 hS) | refine as_i hS ?_ | refine as_i (hS.subs (List.nil_sublist _) sb9) ?_ | refine as_i (hS.subs (List.Sublist.refl _) sb9) ?_ | refine bar_f hS ?_ | refine ld_f hS 0 rfl rfl ?_ | refine ld_f hS 1 rfl rfl ?_ | refine ld_f hS 2 rfl rfl ?_ | refine ldA_f hS 0 rfl rfl ?_ | refine ldA_f hS 1 rfl rfl ?_ | refine ldA_f hS 2 rfl rfl ?_ | (refine stN_f hS 0 rfl (lb9 rfl) rfl rfl ?_; (conv => whnf); intro w1 hS) | (refine stN_f hS 1 rfl (lb9 rfl) rfl rfl ?_; (conv => whnf); intro w1 hS) | (refine stN_f hS 2 rfl (lb9 rfl) rfl rfl ?_; (conv => whnf); intro w1 hS) | (refine stM_f hS 0 rfl (lb9 rfl) rfl ?_; (conv => whnf); intro w1 hS) | (refine stM_f hS 1 rfl (lb9 rfl) rfl ?_; (conv => whnf); intro w1 hS) | (refine stM_f hS 2 rfl (lb9 rfl) rfl ?_; (conv => whnf); intro w1 hS) | (refine .mk ⟨by omega, by omega⟩ ?_; refine ix_i hA ?_) | refine ldN_elp encM_len (hRA hS.nil).at (i := i) (j0 := 0) hlt rfl (lb9 rfl) [.int .u8 ms[i].s.r, .int .u32 ms[i].s.n] rfl ?_ | refine ldN_elp encM_len (hRA hS.nil).at (i := i) (j0 := 2) hlt rfl (lb9 rfl) [.bool ms[i].s.v.d, .int .i64 ms[i].s.v.n, .slice ms[i].A ms[i].s.v.ks.length ms[i].c] rfl ?_ | refine br_t (by assumption) ?_ | refine br_f (by assumption) ?_)
    (conv => whnf)
    refine fc_m (hval _ ((hx.l.el _ (List.getElem_mem _)).below hS.nil)) ?_
    rintro z w5 ⟨B', e', Lb, rfl, hB, hS'⟩
    replace hS := hS.callF hS'
    repeat ((conv => whnf); first | (apply q_i; focus (intro w1 hS; (conv => whnf); first | exact ⟨rfl, rfl⟩ | ((refine ld_f hS 0 rfl rfl ?_); (conv => whnf); exact ⟨rfl, rfl⟩) | ((refine ld_f hS 1 rfl rfl ?_); (conv => whnf); exact ⟨rfl, rfl⟩) | ((refine ld_f hS 2 rfl rfl ?_); (conv => whnf); exact ⟨rfl, rfl⟩) | ((refine ldA_f hS 0 rfl rfl ?_); (conv => whnf); exact ⟨rfl, rfl⟩) | ((refine ldA_f hS 1 rfl rfl ?_); (conv => whnf); exact ⟨rfl, rfl⟩) | ((refine ldA_f hS 2 rfl rfl ?_); (conv => whnf); exact ⟨rfl, rfl⟩))) | (refine nw_f hS ?_; intro b w1 hS) | refine as_i hS ?_ | refine as_i (hS.subs (List.nil_sublist _) sb9) ?_ | refine as_i (hS.subs (List.Sublist.refl _) sb9) ?_ | refine bar_f hS ?_ | refine ld_f hS 0 rfl rfl ?_ | refine ld_f hS 1 rfl rfl ?_ | refine ld_f hS 2 rfl rfl ?_ | refine ldA_f hS 0 rfl rfl ?_ | refine ldA_f hS 1 rfl rfl ?_ | refine ldA_f hS 2 rfl rfl ?_ | (refine stN_f hS 0 rfl (lb9 rfl) rfl rfl ?_; (conv => whnf); intro w1 hS) | (refine stN_f hS 1 rfl (lb9 rfl) rfl rfl ?_; (conv => whnf); intro w1 hS) | (refine stN_f hS 2 rfl (lb9 rfl) rfl rfl ?_; (conv => whnf); intro w1 hS) | (refine stM_f hS 0 rfl (lb9 rfl) rfl ?_; (conv => whnf); intro w1 hS) | (refine stM_f hS 1 rfl (lb9 rfl) rfl ?_; (conv => whnf); intro w1 hS) | (refine stM_f hS 2 rfl (lb9 rfl) rfl ?_; (conv => whnf); intro w1 hS) | refine br_t (by assumption) ?_ | refine br_f (by assumption) ?_)
    (conv => whnf)
    replace hS := hS.rot
    refine app_f TB_ok elM hS hv (show Rd _ _ (flat encM [⟨⟨ms[i].s.r, ms[i].s.n, oV n ms[i].s.v⟩, B', e'⟩]) from hS.rd 0 rfl) rfl (fun y hy => encM_one _ y (by simpa [flat] using hy)) (by omega) (by omega) ?_
    intro v' Lv' w7 hv' hS
    obtain ⟨A', c', rfl, hv'⟩ := hv'.open
    repeat ((conv => whnf); first | (apply q_i; focus (intro w1 hS; (conv => whnf); first | exact ⟨rfl, rfl⟩ | ((refine ld_f hS 0 rfl rfl ?_); (conv => whnf); exact ⟨rfl, rfl⟩) | ((refine ld_f hS 1 rfl rfl ?_); (conv => whnf); exact ⟨rfl, rfl⟩) | ((refine ld_f hS 2 rfl rfl ?_); (conv => whnf); exact ⟨rfl, rfl⟩) | ((refine ld_f hS 3 rfl rfl ?_); (conv => whnf); exact ⟨rfl, rfl⟩) | ((refine ldA_f hS 0 rfl rfl ?_); (conv => whnf); exact ⟨rfl, rfl⟩) | ((refine ldA_f hS 1 rfl rfl ?_); (conv => whnf); exact ⟨rfl, rfl⟩) | ((refine ldA_f hS 2 rfl rfl ?_); (conv => whnf); exact ⟨rfl, rfl⟩) | ((refine ldA_f hS 3 rfl rfl ?_); (conv => whnf); exact ⟨rfl, rfl⟩))) | (refine nw_f hS ?_; intro b w1 hS) | refine as_i hS ?_ | refine as_i (hS.subs (List.nil_sublist _) sb9) ?_ | refine as_i (hS.subs (List.Sublist.refl _) sb9) ?_ | refine bar_f hS ?_ | refine ld_f hS 0 rfl rfl ?_ | refine ld_f hS 1 rfl rfl ?_ | refine ld_f hS 2 rfl rfl ?_ | refine ld_f hS 3 rfl rfl ?_ | refine ldA_f hS 0 rfl rfl ?_ | refine ldA_f hS 1 rfl rfl ?_ | refine ldA_f hS 2 rfl rfl ?_ | refine ldA_f hS 3 rfl rfl ?_ | (refine stN_f hS 0 rfl (lb9 rfl) rfl rfl ?_; (conv => whnf); intro w1 hS) | (refine stN_f hS 1 rfl (lb9 rfl) rfl rfl ?_; (conv => whnf); intro w1 hS) | (refine stN_f hS 2 rfl (lb9 rfl) rfl rfl ?_; (conv => whnf); intro w1 hS) | (refine stN_f hS 3 rfl (lb9 rfl) rfl rfl ?_; (conv => whnf); intro w1 hS) | (refine stM_f hS 0 rfl (lb9 rfl) rfl ?_; (conv => whnf); intro w1 hS) | (refine stM_f hS 1 rfl (lb9 rfl) rfl ?_; (conv => whnf); intro w1 hS) | (refine stM_f hS 2 rfl (lb9 rfl) rfl ?_; (conv => whnf); intro w1 hS) | (refine stM_f hS 3 rfl (lb9 rfl) rfl ?_; (conv => whnf); intro w1 hS) | refine br_t (by assumption) ?_ | refine br_f (by assumption) ?_)
    refine ⟨rfl, i + 1, ?_, ⟨by omega, A', c', ns ++ [⟨⟨ms[i].s.r, ms[i].s.n, oV n ms[i].s.v⟩, B', e'⟩], Lv', Lb ++ Li, ?_, ?_, ?_, ?_⟩, by omega⟩
    · rw [wi hlt (by omega)]
      rfl
    · rw [List.take_succ_eq_append_getElem (by omega), List.map_append, List.map_append, hns, List.map_cons, List.map_cons, hxi]
      rfl
    · intro w'' hH m hm
      rcases List.mem_append.1 hm with hm | hm
      · exact hin w'' (fun y hy => hH y (List.mem_append_right _ hy)) m hm
      · obtain rfl := List.mem_singleton.1 hm
        exact hB w'' (fun y hy => hH y (List.mem_append_left _ hy))
    · rw [flat_append]
      exact hv'
    · rw [show Lv' ++ ((Lb ++ Li) ++ []) = Lv' ++ (Lb ++ (Li ++ [])) by simp]
      exact hS.subs (List.Sublist.refl _) (List.Sublist.cons _ (List.Sublist.refl _))
  · have hge : i = ms.length := by have := of_decide_eq_false hb; omega
    rw [hge, ← hl, List.take_length] at hns
    rw [hge, ← hl] at hv hS
    have hnl : x.xs.length = ns.length := by have := congrArg List.length hns; rw [List.length_map, List.length_map] at this; exact this.symm
    repeat ((conv => whnf); first | (apply q_i; focus (intro w1 hS; (conv => whnf); first | exact ⟨rfl, rfl⟩ | ((refine ld_f hS 0 rfl rfl ?_); (conv => whnf); exact ⟨rfl, rfl⟩) | ((refine ld_f hS 1 rfl rfl ?_); (conv => whnf); exact ⟨rfl, rfl⟩) | ((refine ld_f hS 2 rfl rfl ?_); (conv => whnf); exact ⟨rfl, rfl⟩) | ((refine ldA_f hS 0 rfl rfl ?_); (conv => whnf); exact ⟨rfl, rfl⟩) | ((refine ldA_f hS 1 rfl rfl ?_); (conv => whnf); exact ⟨rfl, rfl⟩) | ((refine ldA_f hS 2 rfl rfl ?_); (conv => whnf); exact ⟨rfl, rfl⟩) | ((refine ldN_f hS 0 rfl (lb9 rfl) ?_); (conv => whnf); exact ⟨rfl, rfl⟩))) | (refine nw_f hS ?_; intro b w1 hS) | refine as_i hS ?_ | refine as_i (hS.subs (List.nil_sublist _) sb9) ?_ | refine as_i (hS.subs (List.Sublist.refl _) sb9) ?_ | refine bar_f hS ?_ | refine ld_f hS 0 rfl rfl ?_ | refine ld_f hS 1 rfl rfl ?_ | refine ld_f hS 2 rfl rfl ?_ | refine ldA_f hS 0 rfl rfl ?_ | refine ldA_f hS 1 rfl rfl ?_ | refine ldA_f hS 2 rfl rfl ?_ | (refine stN_f hS 0 rfl (lb9 rfl) rfl rfl ?_; (conv => whnf); intro w1 hS) | (refine stN_f hS 1 rfl (lb9 rfl) rfl rfl ?_; (conv => whnf); intro w1 hS) | (refine stN_f hS 2 rfl (lb9 rfl) rfl rfl ?_; (conv => whnf); intro w1 hS) | (refine stM_f hS 0 rfl (lb9 rfl) rfl ?_; (conv => whnf); intro w1 hS) | (refine stM_f hS 1 rfl (lb9 rfl) rfl ?_; (conv => whnf); intro w1 hS) | (refine stM_f hS 2 rfl (lb9 rfl) rfl ?_; (conv => whnf); intro w1 hS) | refine ldN_f hS 0 rfl (lb9 rfl) ?_ | (refine drawf TB_ok rfl (by kernel_rfl) (by kernel_rfl) hS (List.Sublist.refl _) (List.Sublist.refl _) ?_; intro w1 hS) | refine br_t (by assumption) ?_ | refine br_f (by assumption) ?_)
    refine ⟨Lv ++ Li, ⟨⟨B, d, h.B, h.e⟩, ns, ?_, fun w'' hH hm => ?_⟩, by simpa using hS.fr (List.Sublist.refl _)⟩
    · rw [e]
      unfold recV recL
      simp only [List.length_map]
      rfl
    · rw [e]
      exact ⟨hns.symm, ⟨hv.rdK (fun y hy => hH y (List.mem_append_left _ hy)), hin w'' (fun y hy => hH y (List.mem_append_right _ hy))⟩, hm.v⟩
end Go.RV

set_option maxRecDepth 20000
set_option linter.unusedVariables false
set_option linter.unusedSimpArgs false
namespace Go.RV
open Go Go.Proofs Go.RowKit

theorem wrap_i64s {m : Int} (h0 : 0 ≤ m) (h1 : m ≤ 9223372036854775807) : IntKind.i64.wrap m = m := by
  unfold IntKind.wrap IntKind.bits IntKind.signed
  simp only [Bool.true_and]
  split <;> rename_i h <;> simp at h ⊢ <;> omega
structure Ov (n : Int) : Prop where
  r : 0 ≤ o8 n ∧ o8 n ≤ 7
  h : 1 ≤ oH n ∧ oH n ≤ 2147483648
  t : 0 ≤ n.tmod 1073741824 ∧ n.tmod 1073741824 ≤ 1073741823
  n1 : 1 ≤ IntKind.u32.wrap (1 + n.tmod 1000) ∧ IntKind.u32.wrap (1 + n.tmod 1000) ≤ 1000
  rk : 0 ≤ IntKind.u8.wrap (n.tmod 2) ∧ IntKind.u8.wrap (n.tmod 2) ≤ 1
  rq : 0 ≤ IntKind.i64.wrap (n.tmod 1073741824) ∧ IntKind.i64.wrap (n.tmod 1073741824) ≤ 1073741823
  vc : 1 ≤ IntKind.u8.wrap (IntKind.u32.wrap (1 + n.tmod 4)) ∧ IntKind.u8.wrap (IntKind.u32.wrap (1 + n.tmod 4)) ≤ 4
  cb : 0 ≤ IntKind.i64.wrap (n.tmod 2048) ∧ IntKind.i64.wrap (n.tmod 2048) ≤ 2047
  cr : 1 ≤ IntKind.i64.wrap (IntKind.u32.wrap (1 + n.tmod 65535)) ∧ IntKind.i64.wrap (IntKind.u32.wrap (1 + n.tmod 65535)) ≤ 65535
  cs : 1 ≤ IntKind.i64.wrap (IntKind.u32.wrap (1 + n.tmod 64)) ∧ IntKind.i64.wrap (IntKind.u32.wrap (1 + n.tmod 64)) ≤ 64
theorem ov {n : Int} (h0 : 0 ≤ n) (h1 : n ≤ 4294967295) : Ov n := by
  have a8 := u32_rem h0 8 (by decide)
  have a30 := u32_rem h0 1073741824 (by decide)
  have a1000 := u32_rem h0 1000 (by decide)
  have a2 := u32_rem h0 2 (by decide)
  have a4 := u32_rem h0 4 (by decide)
  have a11 := u32_rem h0 2048 (by decide)
  have a16 := u32_rem h0 65535 (by decide)
  have a6 := u32_rem h0 64 (by decide)
  have q : n.tdiv 2 = n / 2 := Int.tdiv_eq_ediv_of_nonneg h0
  have w4 : IntKind.u32.wrap (1 + n.tmod 4) = 1 + n.tmod 4 := wrap_u32 (by omega) (by omega)
  have w16 : IntKind.u32.wrap (1 + n.tmod 65535) = 1 + n.tmod 65535 := wrap_u32 (by omega) (by omega)
  have w6 : IntKind.u32.wrap (1 + n.tmod 64) = 1 + n.tmod 64 := wrap_u32 (by omega) (by omega)
  refine ⟨?_, ?_, by omega, ?_, ?_, ?_, ?_, ?_, ?_, ?_⟩
  · unfold o8; rw [wrap_u8 (by omega) (by omega)]; omega
  · unfold oH; rw [q, wrap_u32 (x := n / 2) (by omega) (by omega), wrap_u32 (by omega) (by omega)]; omega
  · rw [wrap_u32 (by omega) (by omega)]; omega
  · rw [wrap_u8 (by omega) (by omega)]; omega
  · rw [wrap_i64s (by omega) (by omega)]; omega
  · rw [w4, wrap_u8 (by omega) (by omega)]; omega
  · rw [wrap_i64s (by omega) (by omega)]; omega
  · rw [w16, wrap_i64s (by omega) (by omega)]; omega
  · rw [w6, wrap_i64s (by omega) (by omega)]; omega
theorem sbsO_len (n : Int) : ∀ xs : List Sv, (sbsT (xs.map (oS n))).length = (sbsT xs).length
  | [] => rfl
  | x :: xs => by
    have ih := sbsO_len n xs
    unfold sbsT at ih ⊢
    simp only [List.map_cons, List.flatMap_cons, List.length_append, ih]
    simp [sbT, oS, oV_len, be_len]
theorem regB_o (f : Nat → Int) (n : Int) {xs : List Sv} (h : regB f xs = true) : regB f (xs.map (oS n)) = true := by
  unfold regB checkS at h ⊢
  rw [Bool.and_eq_true, List.all_eq_true] at h ⊢
  refine ⟨?_, fun s hs => ?_⟩
  · rw [List.map_map]
    exact h.1
  · obtain ⟨t, ht, rfl⟩ := List.mem_map.1 hs
    exact oV_okV (h.2 t ht)
theorem oR_laws {x : Rx} {n : Int} (ho : okR x) (hz : fewR x) (hc : checkR x = true) (h0 : 0 ≤ n) (h1 : n ≤ 4294967295) :
    okR (oR x n) ∧ fewR (oR x n) ∧ checkR (oR x n) = true ∧ (recT (oR x n)).length = (recT x).length := by
  have o := ov h0 h1
  have hm := checkR_may hc
  have hs : sameR x (needR x) = true := by
    unfold checkR at hc
    rw [Bool.and_eq_true] at hc
    exact hc.2
  have z8 : (0 : Int) ≤ 0 ∧ (0 : Int) ≤ 255 := by decide
  have b8 : 0 ≤ o8 n ∧ o8 n ≤ 255 := ⟨o.r.1, by have := o.r.2; omega⟩
  have bH : 0 ≤ oH n ∧ oH n ≤ 4294967295 := ⟨by have := o.h.1; omega, by have := o.h.2; omega⟩
  have bt : 0 ≤ n.tmod 1073741824 ∧ n.tmod 1073741824 ≤ 4294967295 := ⟨o.t.1, by have := o.t.2; omega⟩
  have bn1 : 0 ≤ IntKind.u32.wrap (1 + n.tmod 1000) ∧ IntKind.u32.wrap (1 + n.tmod 1000) ≤ 4294967295 := by have := o.n1; omega
  have brk : 0 ≤ IntKind.u8.wrap (n.tmod 2) ∧ IntKind.u8.wrap (n.tmod 2) ≤ 255 := by have := o.rk; omega
  have brq : -9223372036854775808 ≤ IntKind.i64.wrap (n.tmod 1073741824) ∧ IntKind.i64.wrap (n.tmod 1073741824) ≤ 9223372036854775807 := by have := o.rq; omega
  have bvc : 0 ≤ IntKind.u8.wrap (IntKind.u32.wrap (1 + n.tmod 4)) ∧ IntKind.u8.wrap (IntKind.u32.wrap (1 + n.tmod 4)) ≤ 255 := by have := o.vc; omega
  have bcb : -9223372036854775808 ≤ IntKind.i64.wrap (n.tmod 2048) ∧ IntKind.i64.wrap (n.tmod 2048) ≤ 9223372036854775807 := by have := o.cb; omega
  have bcr : -9223372036854775808 ≤ IntKind.i64.wrap (IntKind.u32.wrap (1 + n.tmod 65535)) ∧ IntKind.i64.wrap (IntKind.u32.wrap (1 + n.tmod 65535)) ≤ 9223372036854775807 := by have := o.cr; omega
  have bcs : -9223372036854775808 ≤ IntKind.i64.wrap (IntKind.u32.wrap (1 + n.tmod 64)) ∧ IntKind.i64.wrap (IntKind.u32.wrap (1 + n.tmod 64)) ≤ 9223372036854775807 := by have := o.cs; omega
  have bxs : ∀ s ∈ x.xs.map (oS n), okSv s := fun s hs => by
    obtain ⟨t, ht, rfl⟩ := List.mem_map.1 hs
    have := ho.xs t ht
    exact ⟨this.1, this.2.1, oV_okVa this.2.2⟩
  have bel : ∀ s ∈ x.xs.map (oS n), s.v.ks.length ≤ 20 := fun s hs => by
    obtain ⟨t, ht, rfl⟩ := List.mem_map.1 hs
    simp only [oS, oV, List.length_map]
    exact hz.el t ht
  rcases checkR_kinds hc with hk | hk | hk | hk | hk | hk | hk | hk
  · have e : oR x n = { x with r := o8 n } := by unfold oR; simp [hk]
    rw [e]
    refine ⟨{ ho with r := b8 }, ⟨hz.p, hz.l, hz.el, hz.v⟩, ?_, ?_⟩
    · unfold checkR
      rw [Bool.and_eq_true]
      refine ⟨?_, ?_⟩
      · unfold mayR
        simp [hk]
        have := o.r
        omega
      · rw [needR_1 hk] at hs
        rw [needR_1 (x := { x with r := o8 n }) hk]
        simp [sameR, zeroRx, eq3, eq4, sameV_iff, sameSs_iff] at hs ⊢
        simp_all
    · simp [recT, restT, hk, be_len]
  · have e : oR x n = { x with r := 0, n0 := n.tmod 1073741824, n1 := IntKind.u32.wrap (1 + n.tmod 1000), n2 := oH n } := by unfold oR; simp [hk]
    rw [e]
    refine ⟨{ ho with r := z8, n0 := bt, n1 := bn1, n2 := bH }, ⟨hz.p, hz.l, hz.el, hz.v⟩, ?_, ?_⟩
    · unfold checkR
      rw [Bool.and_eq_true]
      refine ⟨?_, ?_⟩
      · unfold mayR
        simp [hk]
        have a1 := o.t
        have a2 := o.n1
        have a3 := o.h
        omega
      · rw [needR_2 hk] at hs
        rw [needR_2 (x := { x with r := 0, n0 := n.tmod 1073741824, n1 := IntKind.u32.wrap (1 + n.tmod 1000), n2 := oH n }) hk]
        simp [sameR, zeroRx, eq3, eq4, sameV_iff, sameSs_iff] at hs ⊢
        simp_all
    · simp [recT, restT, hk, be_len]
  · have e : oR x n = { x with r := 0, rk := IntKind.u8.wrap (n.tmod 2), ra := n, rq := IntKind.i64.wrap (n.tmod 1073741824) } := by unfold oR; simp [hk]
    rw [e]
    refine ⟨{ ho with r := z8, rk := brk, ra := ⟨h0, h1⟩, rq := brq }, ⟨hz.p, hz.l, hz.el, hz.v⟩, ?_, ?_⟩
    · unfold checkR
      rw [Bool.and_eq_true]
      refine ⟨?_, ?_⟩
      · unfold mayR
        simp [hk, inB]
        have a1 := o.rk
        have a2 := o.rq
        omega
      · rw [needR_3 hk] at hs
        rw [needR_3 (x := { x with r := 0, rk := IntKind.u8.wrap (n.tmod 2), ra := n, rq := IntKind.i64.wrap (n.tmod 1073741824) }) hk]
        simp [sameR, zeroRx, eq3, eq4, sameV_iff, sameSs_iff] at hs ⊢
        simp_all
    · simp [recT, restT, hk, be_len]
  · have e : oR x n = { x with r := 0, xs := x.xs.map (oS n) } := by unfold oR; simp [hk]
    rw [e]
    refine ⟨{ ho with r := z8, xs := bxs }, ⟨hz.p, (by simp only [List.length_map]; exact hz.l), bel, hz.v⟩, ?_, ?_⟩
    · unfold checkR
      rw [Bool.and_eq_true]
      refine ⟨?_, ?_⟩
      · unfold mayR
        unfold mayR at hm
        simp [hk] at hm ⊢
        exact ⟨hm.1, regB_o _ _ hm.2⟩
      · rw [needR_4 hk] at hs
        rw [needR_4 (x := { x with r := 0, xs := x.xs.map (oS n) }) hk]
        simp [sameR, zeroRx, eq3, eq4, sameV_iff, sameSs_iff] at hs ⊢
        simp_all
    · simp [recT, restT, hk, be_len, sbsO_len]
  · have e : oR x n = { x with r := 0, vi := oH n, vt := n.tmod 1073741824, vc := IntKind.u8.wrap (IntKind.u32.wrap (1 + n.tmod 4)), v := oV n x.v } := by unfold oR; simp [hk]
    rw [e]
    refine ⟨{ ho with r := z8, vi := bH, vt := bt, vc := bvc, v := oV_okVa ho.v }, ⟨hz.p, hz.l, hz.el, (by simp only [oV, List.length_map]; exact hz.v)⟩, ?_, ?_⟩
    · unfold checkR
      rw [Bool.and_eq_true]
      refine ⟨?_, ?_⟩
      · unfold mayR
        unfold mayR verB at hm
        simp [hk] at hm
        have a3 := o.h
        have a4 := o.t
        have a5 := o.vc
        simp [hk, verB, inB]
        exact ⟨hm.1, by omega, by omega, by omega, hm.2.2.2.2.1, oV_okV hm.2.2.2.2.2⟩
      · rw [needR_5 hk] at hs
        rw [needR_5 (x := { x with r := 0, vi := oH n, vt := n.tmod 1073741824, vc := IntKind.u8.wrap (IntKind.u32.wrap (1 + n.tmod 4)), v := oV n x.v }) hk]
        simp [sameR, zeroRx, eq3, eq4, sameV_iff, sameSs_iff] at hs ⊢
        simp_all
    · simp [recT, restT, hk, be_len, oV_len]
  · have e : oR x n = { x with r := 0, vi := oH n } := by unfold oR; simp [hk]
    rw [e]
    refine ⟨{ ho with r := z8, vi := bH }, ⟨hz.p, hz.l, hz.el, hz.v⟩, ?_, ?_⟩
    · unfold checkR
      rw [Bool.and_eq_true]
      refine ⟨?_, ?_⟩
      · unfold mayR
        simp [hk]
        have a3 := o.h
        omega
      · rw [needR_6 hk] at hs
        rw [needR_6 (x := { x with r := 0, vi := oH n }) hk]
        simp [sameR, zeroRx, eq3, eq4, sameV_iff, sameSs_iff] at hs ⊢
        simp_all
    · simp [recT, restT, hk, be_len]
  · have e : oR x n = { x with r := 0, ci := oH n, cb := IntKind.i64.wrap (n.tmod 2048), cr := IntKind.i64.wrap (IntKind.u32.wrap (1 + n.tmod 65535)), cs := IntKind.i64.wrap (IntKind.u32.wrap (1 + n.tmod 64)) } := by unfold oR; simp [hk]
    rw [e]
    refine ⟨{ ho with r := z8, ci := bH, cb := bcb, cr := bcr, cs := bcs }, ⟨hz.p, hz.l, hz.el, hz.v⟩, ?_, ?_⟩
    · unfold checkR
      rw [Bool.and_eq_true]
      refine ⟨?_, ?_⟩
      · unfold mayR
        have a3 := o.h
        have a4 := o.cb
        have a5 := o.cr
        have a6 := o.cs
        simp [hk, chunkB, inB]
        rw [if_neg (by omega)]
        (try simp)
        omega
      · rw [needR_7 hk] at hs
        rw [needR_7 (x := { x with r := 0, ci := oH n, cb := IntKind.i64.wrap (n.tmod 2048), cr := IntKind.i64.wrap (IntKind.u32.wrap (1 + n.tmod 65535)), cs := IntKind.i64.wrap (IntKind.u32.wrap (1 + n.tmod 64)) }) hk]
        simp [sameR, zeroRx, eq3, eq4, sameV_iff, sameSs_iff] at hs ⊢
        simp_all
    · simp [recT, restT, hk, be_len]
  · have e : oR x n = { x with r := o8 n } := by unfold oR; simp [hk]
    rw [e]
    refine ⟨{ ho with r := b8 }, ⟨hz.p, hz.l, hz.el, hz.v⟩, ?_, ?_⟩
    · unfold checkR
      rw [Bool.and_eq_true]
      refine ⟨?_, ?_⟩
      · unfold mayR at hm ⊢
        simp [hk] at hm ⊢
        have := o.r
        exact ⟨by omega, hm.2⟩
      · rw [needR_8 hk] at hs
        rw [needR_8 (x := { x with r := o8 n }) hk]
        simp [sameR, zeroRx, eq3, eq4, sameV_iff, sameSs_iff] at hs ⊢
        simp_all
    · simp [recT, restT, hk, be_len]
end Go.RV

set_option maxRecDepth 20000
set_option linter.unusedVariables false
set_option linter.unusedSimpArgs false
namespace Go.RV
open Go Go.Proofs Go.RowKit

theorem rdrL {w : World} {A : Option Addr} {x : Rx} {h : Hd} {ms : List Sm} (hR : Rd w A (flat encRm [⟨x, h, ms⟩])) (hx : MemR w x h ms) : RdR w A [⟨x, h, ms⟩] := ⟨hR, fun r hr => by
  obtain rfl := List.mem_singleton.1 hr
  exact hx⟩
theorem other18_c (x : Rx) (n : Int) (hz : fewR x) (hc : checkR x = true) (h : Hd) (ms : List Sm) (w : World) (hx : MemR w x h ms) :
    Fc Tryz.prog 21 [recV x h, .int .u32 n] w fun z w' => ∃ Lv, Oth x h ms n z Lv ∧ St [] w w' Lv := by
  have h1 := hz.l
  have h2 : ∀ s ∈ x.xs, s.v.ks.length ≤ 1000000 := fun s hs => by have := hz.el s hs; omega
  have h3 := hz.v
  rcases checkR_kinds hc with hk | hk | hk | hk | hk | hk | hk | hk
  · exact other1_c x n (.inl hk) h ms w hx
  · exact other2_c x n hk h ms w hx
  · exact other3_c x n hk h ms w hx
  · exact other4_c x n hk h ms (by omega) h2 w hx
  · exact other5_c x n hk h ms (by omega) w hx
  · exact other6_c x n hk h ms w hx
  · exact other7_c x n hk h ms w hx
  · exact other1_c x n (.inr hk) h ms w hx
theorem size1_c (x : Rx) (ho : okR x) (hz : fewR x) (hc : checkR x = true) (l : Nat) (hl : (recT x).length = l) (h : Hd) (ms : List Sm) (A : Option Addr) (c : Nat) (w : World) (hR : RdR w A [⟨x, h, ms⟩]) :
    Fc Tryz.prog 19 [.slice A 1 c] w fun v w' => v = .int .i64 l ∧ St [] w w' [] := by
  have := sizeR_c A c [⟨x, h, ms⟩] (fun r hr => by obtain rfl := List.mem_singleton.1 hr; exact ⟨ho, hz.sz⟩) (by simp) w hR
  rw [show ([(⟨x, h, ms⟩ : Rm)].map Rm.x) = [x] from rfl, putR1, if_pos hc, hl] at this
  exact this
set_option maxHeartbeats 16000000 in
theorem recordLong_c (x : Rx) (ho : okR x) (h : Hd) (ms : List Sm) (hlx : x.xs.length ≤ 9223372036854775807) (n : Int) (h0 : 0 ≤ n) (h1 : n ≤ 4294967295) (w : World) (hx : MemR w x h ms) :
    Fc Tryz.prog 6 [recV x h, .int .u32 n] w fun v w' => v = .bool true ∧ St [] w w' [] := by
  refine fc_i TB_ok Tryz.func6 rfl (by kernel_rfl) ?_
  have hS := Sf.refl w
  repeat ((conv => whnf); first | (apply q_i; focus (intro w1 hS; (conv => whnf); first | exact ⟨rfl, rfl⟩ | ((refine ld_f hS 0 rfl rfl ?_); (conv => whnf); exact ⟨rfl, rfl⟩) | ((refine ld_f hS 1 rfl rfl ?_); (conv => whnf); exact ⟨rfl, rfl⟩) | ((refine ldA_f hS 0 rfl rfl ?_); (conv => whnf); exact ⟨rfl, rfl⟩) | ((refine ldA_f hS 1 rfl rfl ?_); (conv => whnf); exact ⟨rfl, rfl⟩) | ((refine ldN_f hS 0 rfl (lb9 rfl) ?_); (conv => whnf); exact ⟨rfl, rfl⟩))) | (refine nw_f hS ?_; intro b w1 hS) | refine as_i hS ?_ | refine as_i (hS.subs (List.nil_sublist _) sb9) ?_ | refine as_i (hS.subs (List.Sublist.refl _) sb9) ?_ | refine bar_f hS ?_ | refine ld_f hS 0 rfl rfl ?_ | refine ld_f hS 1 rfl rfl ?_ | refine ldA_f hS 0 rfl rfl ?_ | refine ldA_f hS 1 rfl rfl ?_ | (refine stN_f hS 0 rfl (lb9 rfl) rfl rfl ?_; (conv => whnf); intro w1 hS) | (refine stN_f hS 1 rfl (lb9 rfl) rfl rfl ?_; (conv => whnf); intro w1 hS) | (refine stM_f hS 0 rfl (lb9 rfl) rfl ?_; (conv => whnf); intro w1 hS) | (refine stM_f hS 1 rfl (lb9 rfl) rfl ?_; (conv => whnf); intro w1 hS) | refine ldN_f hS 0 rfl (lb9 rfl) ?_ | refine br_t (by assumption) ?_ | refine br_f (by assumption) ?_)
  refine fc_m (few18_c x h ms _ (hx.below hS.nil) hlx) ?_
  rintro v w1 ⟨⟨q1, rfl, hq1⟩, hS'⟩
  replace hS := hS.call0 hS'
  cases q1 with
  | false =>
    repeat ((conv => whnf); first | (apply q_i; focus (intro w1 hS; (conv => whnf); first | exact ⟨rfl, rfl⟩ | ((refine ld_f hS 0 rfl rfl ?_); (conv => whnf); exact ⟨rfl, rfl⟩) | ((refine ld_f hS 1 rfl rfl ?_); (conv => whnf); exact ⟨rfl, rfl⟩) | ((refine ldA_f hS 0 rfl rfl ?_); (conv => whnf); exact ⟨rfl, rfl⟩) | ((refine ldA_f hS 1 rfl rfl ?_); (conv => whnf); exact ⟨rfl, rfl⟩) | ((refine fc_m (works18_c _) ?_; rintro v w3 ⟨rfl, hS'⟩; replace hS := hS.call0 hS'); (conv => whnf); exact ⟨rfl, rfl⟩))) | (refine nw_f hS ?_; intro b w1 hS) | refine as_i hS ?_ | refine as_i (hS.subs (List.nil_sublist _) sb9) ?_ | refine as_i (hS.subs (List.Sublist.refl _) sb9) ?_ | refine bar_f hS ?_ | refine ld_f hS 0 rfl rfl ?_ | refine ld_f hS 1 rfl rfl ?_ | refine ldA_f hS 0 rfl rfl ?_ | refine ldA_f hS 1 rfl rfl ?_ | (refine stN_f hS 0 rfl (lb9 rfl) rfl rfl ?_; (conv => whnf); intro w1 hS) | (refine stN_f hS 1 rfl (lb9 rfl) rfl rfl ?_; (conv => whnf); intro w1 hS) | (refine stM_f hS 0 rfl (lb9 rfl) rfl ?_; (conv => whnf); intro w1 hS) | (refine stM_f hS 1 rfl (lb9 rfl) rfl ?_; (conv => whnf); intro w1 hS) | (refine fc_m (works18_c _) ?_; rintro v w3 ⟨rfl, hS'⟩; replace hS := hS.call0 hS') | refine br_t (by assumption) ?_ | refine br_f (by assumption) ?_)
    exact ⟨rfl, hS.nil⟩
  | true =>
  have hz := hq1 rfl
  clear hq1
  have hck := fun w' => check18_c x ho hz.sz h ms w'
  cases hc : checkR x with
  | false =>
    rw [hc] at hck
    obtain ⟨e4, he4⟩ : ∃ e : Int, e = 4 := ⟨4, rfl⟩
    have g1 : (e4 != 0) = true := by rw [he4]; rfl
    have hck4 : ∀ w', MemR w' x h ms → Fc Tryz.prog 15 [recV x h] w' fun v w'' => v = .int .i64 e4 ∧ St [] w' w'' [] := fun w' hm => by rw [he4]; exact hck w' hm
    repeat ((conv => whnf); first | (apply q_i; focus (intro w1 hS; (conv => whnf); first | exact ⟨rfl, rfl⟩ | ((refine ld_f hS 0 rfl rfl ?_); (conv => whnf); exact ⟨rfl, rfl⟩) | ((refine ld_f hS 1 rfl rfl ?_); (conv => whnf); exact ⟨rfl, rfl⟩) | ((refine ldA_f hS 0 rfl rfl ?_); (conv => whnf); exact ⟨rfl, rfl⟩) | ((refine ldA_f hS 1 rfl rfl ?_); (conv => whnf); exact ⟨rfl, rfl⟩) | ((refine fc_m (hck4 _ (hx.below hS.nil)) ?_; rintro v w3 ⟨rfl, hS'⟩; replace hS := hS.call0 hS'); (conv => whnf); exact ⟨rfl, rfl⟩) | ((refine fc_m (works18_c _) ?_; rintro v w3 ⟨rfl, hS'⟩; replace hS := hS.call0 hS'); (conv => whnf); exact ⟨rfl, rfl⟩))) | (refine nw_f hS ?_; intro b w1 hS) | refine as_i hS ?_ | refine as_i (hS.subs (List.nil_sublist _) sb9) ?_ | refine as_i (hS.subs (List.Sublist.refl _) sb9) ?_ | refine bar_f hS ?_ | refine ld_f hS 0 rfl rfl ?_ | refine ld_f hS 1 rfl rfl ?_ | refine ldA_f hS 0 rfl rfl ?_ | refine ldA_f hS 1 rfl rfl ?_ | (refine stN_f hS 0 rfl (lb9 rfl) rfl rfl ?_; (conv => whnf); intro w1 hS) | (refine stN_f hS 1 rfl (lb9 rfl) rfl rfl ?_; (conv => whnf); intro w1 hS) | (refine stM_f hS 0 rfl (lb9 rfl) rfl ?_; (conv => whnf); intro w1 hS) | (refine stM_f hS 1 rfl (lb9 rfl) rfl ?_; (conv => whnf); intro w1 hS) | (refine fc_m (hck4 _ (hx.below hS.nil)) ?_; rintro v w3 ⟨rfl, hS'⟩; replace hS := hS.call0 hS') | (refine fc_m (works18_c _) ?_; rintro v w3 ⟨rfl, hS'⟩; replace hS := hS.call0 hS') | refine br_t (by assumption) ?_ | refine br_f (by assumption) ?_)
    exact ⟨rfl, hS.nil⟩
  | true =>
  obtain ⟨oo, oz, oc, ol⟩ := oR_laws ho hz hc h0 h1
  obtain ⟨e0, he0⟩ : ∃ e : Int, e = 0 := ⟨0, rfl⟩
  have g0 : (e0 != 0) = false := by rw [he0]; rfl
  have g00 : (e0 == 0) = true := by rw [he0]; rfl
  have hckx : ∀ w', MemR w' x h ms → Fc Tryz.prog 15 [recV x h] w' fun v w'' => v = .int .i64 e0 ∧ St [] w' w'' [] := fun w' hm => by
    have := hck w' hm
    rw [hc] at this
    rw [he0]
    exact this
  have hcky : ∀ h' ms' w', MemR w' (oR x n) h' ms' → Fc Tryz.prog 15 [recV (oR x n) h'] w' fun v w'' => v = .int .i64 e0 ∧ St [] w' w'' [] := fun h' ms' w' hm => by
    have := check18_c (oR x n) oo oz.sz h' ms' w' hm
    rw [oc] at this
    rw [he0]
    exact this
  have hpos := recT_pos x
  have hsx := size1_c x ho hz hc _ rfl h ms
  have hsy := size1_c (oR x n) oo oz oc _ ol
  generalize (recT x).length = l at *
  have gl : ((l : Int) == (l : Int)) = true := by simp
  have gp : decide ((0 : Int) < (l : Int)) = true := decide_eq_true (by omega)
  repeat ((conv => whnf); first | (apply q_i; focus (intro w1 hS; (conv => whnf); first | exact ⟨rfl, rfl⟩ | ((refine ld_f hS 0 rfl rfl ?_); (conv => whnf); exact ⟨rfl, rfl⟩) | ((refine ld_f hS 1 rfl rfl ?_); (conv => whnf); exact ⟨rfl, rfl⟩) | ((refine ldA_f hS 0 rfl rfl ?_); (conv => whnf); exact ⟨rfl, rfl⟩) | ((refine ldA_f hS 1 rfl rfl ?_); (conv => whnf); exact ⟨rfl, rfl⟩) | ((refine fc_m (hckx _ (hx.below hS.nil)) ?_; rintro v w3 ⟨rfl, hS'⟩; replace hS := hS.call0 hS'); (conv => whnf); exact ⟨rfl, rfl⟩))) | (refine nw_f hS ?_; intro b w1 hS) | refine as_i hS ?_ | refine as_i (hS.subs (List.nil_sublist _) sb9) ?_ | refine as_i (hS.subs (List.Sublist.refl _) sb9) ?_ | refine bar_f hS ?_ | refine ld_f hS 0 rfl rfl ?_ | refine ld_f hS 1 rfl rfl ?_ | refine ldA_f hS 0 rfl rfl ?_ | refine ldA_f hS 1 rfl rfl ?_ | (refine stN_f hS 0 rfl (lb9 rfl) rfl rfl ?_; (conv => whnf); intro w1 hS) | (refine stN_f hS 1 rfl (lb9 rfl) rfl rfl ?_; (conv => whnf); intro w1 hS) | (refine stM_f hS 0 rfl (lb9 rfl) rfl ?_; (conv => whnf); intro w1 hS) | (refine stM_f hS 1 rfl (lb9 rfl) rfl ?_; (conv => whnf); intro w1 hS) | (refine fc_m (hckx _ (hx.below hS.nil)) ?_; rintro v w3 ⟨rfl, hS'⟩; replace hS := hS.call0 hS') | refine br_t (by assumption) ?_ | refine br_f (by assumption) ?_)
  (conv => whnf)
  refine fc_m (other18_c x n hz hc h ms _ (hx.below hS.nil)) ?_
  rintro z w3 ⟨Lv, ⟨h', ms', rfl, hm'⟩, hS'⟩
  replace hS := hS.callF hS'
  have hy : ∀ {w' : World} {F L : LM}, Sf [] w w' (Lv ++ F) L → MemR w' (oR x n) h' ms' := fun s => hm' _ (s.st.holds (Ls := Lv) (fun y hy => by simp [hy])) (hx.below s.nil)
  generalize oR x n = yy at *
  repeat ((conv => whnf); first | (apply q_i; focus (intro w1 hS; (conv => whnf); first | exact ⟨rfl, rfl⟩ | ((refine ld_f hS 0 rfl rfl ?_); (conv => whnf); exact ⟨rfl, rfl⟩) | ((refine ld_f hS 1 rfl rfl ?_); (conv => whnf); exact ⟨rfl, rfl⟩) | ((refine ldA_f hS 0 rfl rfl ?_); (conv => whnf); exact ⟨rfl, rfl⟩) | ((refine ldA_f hS 1 rfl rfl ?_); (conv => whnf); exact ⟨rfl, rfl⟩))) | (refine nw_f hS ?_; intro b w1 hS) | refine as_i hS ?_ | refine as_i (hS.subs (List.nil_sublist _) sb9) ?_ | refine as_i (hS.subs (List.Sublist.refl _) sb9) ?_ | refine bar_f hS ?_ | refine ld_f hS 0 rfl rfl ?_ | refine ld_f hS 1 rfl rfl ?_ | refine ldA_f hS 0 rfl rfl ?_ | refine ldA_f hS 1 rfl rfl ?_ | (refine stN_f hS 0 rfl (lb9 rfl) rfl rfl ?_; (conv => whnf); intro w1 hS) | (refine stN_f hS 1 rfl (lb9 rfl) rfl rfl ?_; (conv => whnf); intro w1 hS) | (refine stM_f hS 0 rfl (lb9 rfl) rfl ?_; (conv => whnf); intro w1 hS) | (refine stM_f hS 1 rfl (lb9 rfl) rfl ?_; (conv => whnf); intro w1 hS) | refine br_t (by assumption) ?_ | refine br_f (by assumption) ?_)
  refine drawf TB_ok rfl (by kernel_rfl) (by kernel_rfl) hS (List.Sublist.refl _) (List.Sublist.refl _) ?_; intro w4 hS
  repeat' ((conv => whnf); first | refine And.intro ?_ ?_ | (apply q_i; focus (intro w1 hS; (conv => whnf); first | exact ⟨rfl, rfl⟩ | ((refine ld_f hS 0 rfl rfl ?_); (conv => whnf); exact ⟨rfl, rfl⟩) | ((refine ld_f hS 1 rfl rfl ?_); (conv => whnf); exact ⟨rfl, rfl⟩) | ((refine ld_f hS 2 rfl rfl ?_); (conv => whnf); exact ⟨rfl, rfl⟩) | ((refine ld_f hS 3 rfl rfl ?_); (conv => whnf); exact ⟨rfl, rfl⟩) | ((refine ldA_f hS 0 rfl rfl ?_); (conv => whnf); exact ⟨rfl, rfl⟩) | ((refine ldA_f hS 1 rfl rfl ?_); (conv => whnf); exact ⟨rfl, rfl⟩) | ((refine ldA_f hS 2 rfl rfl ?_); (conv => whnf); exact ⟨rfl, rfl⟩) | ((refine ldA_f hS 3 rfl rfl ?_); (conv => whnf); exact ⟨rfl, rfl⟩) | ((refine fc_m (hcky _ _ _ (hy hS)) ?_; rintro v w3 ⟨rfl, hS'⟩; replace hS := hS.call0 hS'); (conv => whnf); exact ⟨rfl, rfl⟩) | ((refine fc_m (hsx _ _ _ (rdrL (hS.rd 0 rfl) (hx.below hS.nil))) ?_; rintro v w3 ⟨rfl, hS'⟩; replace hS := hS.call0 hS'); (conv => whnf); exact ⟨rfl, rfl⟩) | ((refine fc_m (hsy _ _ _ _ _ (rdrL (hS.rd 0 rfl) (hy hS))) ?_; rintro v w3 ⟨rfl, hS'⟩; replace hS := hS.call0 hS'); (conv => whnf); exact ⟨rfl, rfl⟩) | ((refine fc_m (hsx _ _ _ (rdrL (hS.rd 1 rfl) (hx.below hS.nil))) ?_; rintro v w3 ⟨rfl, hS'⟩; replace hS := hS.call0 hS'); (conv => whnf); exact ⟨rfl, rfl⟩) | ((refine fc_m (hsy _ _ _ _ _ (rdrL (hS.rd 1 rfl) (hy hS))) ?_; rintro v w3 ⟨rfl, hS'⟩; replace hS := hS.call0 hS'); (conv => whnf); exact ⟨rfl, rfl⟩) | ((refine fc_m (hsx _ _ _ (rdrL (hS.rd 2 rfl) (hx.below hS.nil))) ?_; rintro v w3 ⟨rfl, hS'⟩; replace hS := hS.call0 hS'); (conv => whnf); exact ⟨rfl, rfl⟩) | ((refine fc_m (hsy _ _ _ _ _ (rdrL (hS.rd 2 rfl) (hy hS))) ?_; rintro v w3 ⟨rfl, hS'⟩; replace hS := hS.call0 hS'); (conv => whnf); exact ⟨rfl, rfl⟩) | ((refine fc_m (works18_c _) ?_; rintro v w3 ⟨rfl, hS'⟩; replace hS := hS.call0 hS'); (conv => whnf); exact ⟨rfl, rfl⟩))) | (refine nw_f hS ?_; intro b w1 hS) | refine as_i hS ?_ | refine as_i (hS.subs (List.nil_sublist _) sb9) ?_ | refine as_i (hS.subs (List.Sublist.refl _) sb9) ?_ | refine bar_f hS ?_ | refine ld_f hS 0 rfl rfl ?_ | refine ld_f hS 1 rfl rfl ?_ | refine ld_f hS 2 rfl rfl ?_ | refine ld_f hS 3 rfl rfl ?_ | refine ldA_f hS 0 rfl rfl ?_ | refine ldA_f hS 1 rfl rfl ?_ | refine ldA_f hS 2 rfl rfl ?_ | refine ldA_f hS 3 rfl rfl ?_ | (refine stN_f hS 0 rfl (lb9 rfl) rfl rfl ?_; (conv => whnf); intro w1 hS) | (refine stN_f hS 1 rfl (lb9 rfl) rfl rfl ?_; (conv => whnf); intro w1 hS) | (refine stN_f hS 2 rfl (lb9 rfl) rfl rfl ?_; (conv => whnf); intro w1 hS) | (refine stN_f hS 3 rfl (lb9 rfl) rfl rfl ?_; (conv => whnf); intro w1 hS) | (refine stM_f hS 0 rfl (lb9 rfl) rfl ?_; (conv => whnf); intro w1 hS) | (refine stM_f hS 1 rfl (lb9 rfl) rfl ?_; (conv => whnf); intro w1 hS) | (refine stM_f hS 2 rfl (lb9 rfl) rfl ?_; (conv => whnf); intro w1 hS) | (refine stM_f hS 3 rfl (lb9 rfl) rfl ?_; (conv => whnf); intro w1 hS) | (refine fc_m (hcky _ _ _ (hy hS)) ?_; rintro v w3 ⟨rfl, hS'⟩; replace hS := hS.call0 hS') | (refine fc_m (hsx _ _ _ (rdrL (hS.rd 0 rfl) (hx.below hS.nil))) ?_; rintro v w3 ⟨rfl, hS'⟩; replace hS := hS.call0 hS') | (refine fc_m (hsy _ _ _ _ _ (rdrL (hS.rd 0 rfl) (hy hS))) ?_; rintro v w3 ⟨rfl, hS'⟩; replace hS := hS.call0 hS') | (refine fc_m (hsx _ _ _ (rdrL (hS.rd 1 rfl) (hx.below hS.nil))) ?_; rintro v w3 ⟨rfl, hS'⟩; replace hS := hS.call0 hS') | (refine fc_m (hsy _ _ _ _ _ (rdrL (hS.rd 1 rfl) (hy hS))) ?_; rintro v w3 ⟨rfl, hS'⟩; replace hS := hS.call0 hS') | (refine fc_m (hsx _ _ _ (rdrL (hS.rd 2 rfl) (hx.below hS.nil))) ?_; rintro v w3 ⟨rfl, hS'⟩; replace hS := hS.call0 hS') | (refine fc_m (hsy _ _ _ _ _ (rdrL (hS.rd 2 rfl) (hy hS))) ?_; rintro v w3 ⟨rfl, hS'⟩; replace hS := hS.call0 hS') | (refine fc_m (works18_c _) ?_; rintro v w3 ⟨rfl, hS'⟩; replace hS := hS.call0 hS') | (refine drawf TB_ok rfl (by kernel_rfl) (by kernel_rfl) hS (List.Sublist.refl _) (List.Sublist.refl _) ?_; intro w1 hS) | refine br_t (by assumption) ?_ | refine br_f (by assumption) ?_)
  all_goals first | exact rfl | exact hS.nil
end Go.RV

set_option linter.unusedVariables false
set_option maxRecDepth 20000
namespace Go.RV
open Go Go.Proofs Go.ChangeShapes Go.WideShapes Go.RowKit
theorem strY_dr (s : ByteArray) : strY s.data.toList = s := by cases s; simp [strY]
theorem wfr {k : IntKind} {n : Int} (h : (Lit.int k n).wf = true) : k.min ≤ n ∧ n ≤ k.max := by
  have h1 : (decide (k.min ≤ n) && decide (n ≤ k.max)) = true := h
  simp only [Bool.and_eq_true, decide_eq_true_eq] at h1
  exact h1
theorem cells5r {cs : List Value} (h : cs.length = 5) : ∃ a b c d e, cs = [a, b, c, d, e] := by
  match cs, h with
  | [a, b, c, d, e], _ => exact ⟨a, b, c, d, e, rfl⟩
theorem cells36 {cs : List Value} (h : cs.length = 36) : ∃ a0 a1 a2 a3 a4 a5 a6 a7 a8 f0 f1 f2 f3 f4 f5 f6 f7 l b0 b1 b2 b3 b4 b5 g0 g1 g2 g3 g4 g5 g6 g7 c0 c1 c2 c3,
    cs = [a0, a1, a2, a3, a4, a5, a6, a7, a8, f0, f1, f2, f3, f4, f5, f6, f7, l, b0, b1, b2, b3, b4, b5, g0, g1, g2, g3, g4, g5, g6, g7, c0, c1, c2, c3] := by
  match cs, h with
  | a0 :: a1 :: a2 :: a3 :: a4 :: a5 :: a6 :: a7 :: a8 :: f0 :: f1 :: f2 :: f3 :: f4 :: f5 :: f6 :: f7 :: l :: b0 :: b1 :: b2 :: b3 :: b4 :: b5 :: g0 :: g1 :: g2 :: g3 :: g4 :: g5 :: g6 :: g7 :: c0 :: c1 :: c2 :: c3 :: [], _ =>
    exact ⟨a0, a1, a2, a3, a4, a5, a6, a7, a8, f0, f1, f2, f3, f4, f5, f6, f7, l, b0, b1, b2, b3, b4, b5, g0, g1, g2, g3, g4, g5, g6, g7, c0, c1, c2, c3, rfl⟩
def vec8r (a b c d e f g h : Int) : Nat → Int
  | 0 => a
  | 1 => b
  | 2 => c
  | 3 => d
  | 4 => e
  | 5 => f
  | 6 => g
  | 7 => h
  | _ => 0
theorem vec8r_ok {a b c d e f g h : Int} (ha : 0 ≤ a ∧ a ≤ 4294967295) (hb : 0 ≤ b ∧ b ≤ 4294967295) (hc : 0 ≤ c ∧ c ≤ 4294967295) (hd : 0 ≤ d ∧ d ≤ 4294967295) (he : 0 ≤ e ∧ e ≤ 4294967295) (hf : 0 ≤ f ∧ f ≤ 4294967295) (hg : 0 ≤ g ∧ g ≤ 4294967295) (hh : 0 ≤ h ∧ h ≤ 4294967295) :
    ∀ j, j < 8 → 0 ≤ vec8r a b c d e f g h j ∧ vec8r a b c d e f g h j ≤ 4294967295 := fun j hj => by
  rcases lt8 hj with rfl | rfl | rfl | rfl | rfl | rfl | rfl | rfl
  · exact ha
  · exact hb
  · exact hc
  · exact hd
  · exact he
  · exact hf
  · exact hg
  · exact hh
instance : Inhabited Sm := ⟨⟨⟨0, 0, zeroVa⟩, none, 0⟩⟩
section
variable {W w : World} {r : Reach} {b0 : Nat} {v : Value}
theorem open_u32r (h : Value.okWide Tryz.prog w r b0 32 v) : ∃ n : Int, v = .int .u32 n ∧ 0 ≤ n ∧ n ≤ 4294967295 := by
  simp only [Value.okWide, Tryz.underlying32] at h
  obtain ⟨n, rfl, hn⟩ := cell_int Tryz.underlying32 h
  exact ⟨n, rfl, hn.1, hn.2⟩
variable {H : Type} {en : TypeId × Value → H} {base : Nat} {spare : Nat → Bool} {held : Bool} {d : DataW H} {ps : List MemPlace}
/-- numbers in memory, wherever the slice itself lies -/
theorem open_nums {n : Nat} {cs : List Value} {x : DataW H × List MemPlace} (h : DataW.trod en Tryz.prog w base spare held n 41 cs = some x) :
    ∃ (A : Option Addr) (c : Nat) (ks : List Int), cs = [.slice A ks.length c] ∧ ks.length ≤ c ∧ c ≤ maxLen ∧ Rd w A (flat encU ks) ∧ (∀ k ∈ ks, 0 ≤ k ∧ k ≤ 4294967295) := by
  rcases Go.Deep.open_slice1 Tryz.underlying41 (by kernel_rfl) h with ⟨rfl, _⟩ | ⟨a, len, cap, m, n', V, D, Pl, rfl, hb, hl, hm, hmm, _, hx⟩
  · exact ⟨none, 0, [], rfl, Nat.le_refl _, Nat.zero_le _, .inl rfl, by simp⟩
  · have hlm : len ≤ m := by rw [hmm]; split <;> omega
    have each : ∀ i, i < len → ∃ k : Int, V i = .int .u32 k ∧ 0 ≤ k ∧ k ≤ 4294967295 := fun i hi => by
      obtain ⟨i, e0, _, hi⟩ := DataW.trod_int Tryz.underlying32 (hx i (by omega)).2
      exact ⟨i, by simpa using e0, wfr hi⟩
    obtain ⟨q, hq⟩ := Go.Deep.choose_lt each
    refine ⟨some a, cap, (List.range len).map q, by simp, by simpa using hl, hm, ?_, ?_⟩
    · rcases Nat.eq_zero_or_pos len with rfl | hp
      · exact .inl rfl
      · obtain ⟨ab, ao, sp⟩ := a
        have hspot : sp = none := by simpa [Addr.add] using World.cell?_spot (hx 0 (by omega)).1
        subst hspot
        refine .inr ⟨ab, ao, rfl, fun j v hj => ?_⟩
        have hjl : j < len := by
          have := (List.getElem?_eq_some_iff.1 hj).1
          rw [flat_length encU_len] at this
          simpa using this
        have e := flat_get encU_len ((List.range len).map q) j (by simpa using hjl) 0 (by decide)
        rw [Nat.mul_one, Nat.add_zero] at e
        rw [e] at hj
        have h1 := (hx j (by omega)).1
        rw [(hq j hjl).1, add_none] at h1
        rw [h1]
        simpa [encU] using hj
    · intro k hk
      obtain ⟨i, hi, rfl⟩ := List.mem_map.1 hk
      exact (hq i (by simpa using hi)).2
theorem open_sibsM (hv : Value.okWide Tryz.prog w r b0 38 v) (h : DataW.Trod en Tryz.prog w base spare held 38 v d ps) :
    ∃ (A : Option Addr) (c : Nat) (ms : List Sm), v = .slice A ms.length c ∧ ms.length ≤ c ∧ c ≤ maxLen ∧ Rd w A (flat encM ms) ∧ (∀ m ∈ ms, okSv m.s ∧ Rd w m.A (flat encU m.s.v.ks)) ∧ (A = none → c = 0) := by
  refine open_list Tryz.underlying38 (sz := 5) (by kernel_rfl) (by decide) encM_len ?_ hv h
  intro n cs x hx
  obtain ⟨y0, y1, m, _, hl, h0, h1⟩ := trod_struct2 Tryz.underlying94 hx
  have hl5 : cs.length = 5 := hl.trans (by kernel_rfl)
  obtain ⟨p, q, s, u, o, rfl⟩ := cells5r hl5
  have c1 : Tryz.prog.cellsOf 92 = 2 := by kernel_rfl
  have c3 : Tryz.prog.cellsOf 5 = 1 := by kernel_rfl
  have c4 : Tryz.prog.cellsOf 32 = 1 := by kernel_rfl
  have c5 : Tryz.prog.cellsOf 43 = 3 := by kernel_rfl
  have c6 : Tryz.prog.cellsOf 4 = 1 := by kernel_rfl
  have c7 : Tryz.prog.cellsOf 3 = 1 := by kernel_rfl
  have c8 : Tryz.prog.cellsOf 41 = 1 := by kernel_rfl
  simp [c1] at h0
  simp [c5] at h1
  obtain ⟨z0, z1, m2, _, _, g0, g1⟩ := trod_struct2 Tryz.underlying92 h0
  simp [c3] at g0
  simp [c4] at g1
  obtain ⟨u0, u1, u2, m3, _, _, k0, k1, k2⟩ := Go.Deep.trod_struct3 Tryz.underlying43 h1
  simp [c6] at k0
  simp [c7] at k1
  simp [c8] at k2
  obtain ⟨i, e0, _, hi⟩ := DataW.trod_int Tryz.underlying5 g0
  obtain ⟨k, e1, _, hk⟩ := DataW.trod_int Tryz.underlying32 g1
  obtain ⟨bb, e2, _⟩ := DataW.trod_bool Tryz.underlying4 k0
  obtain ⟨j, e3, _, hj⟩ := DataW.trod_int Tryz.underlying3 k1
  obtain ⟨A, c, ks, e4, _, _, hR, hks⟩ := open_nums k2
  cases e0; cases e1; cases e2; cases e3; cases e4
  exact ⟨⟨⟨i, k, bb, j, ks⟩, A, c⟩, rfl, ⟨wfr hi, wfr hk, wfr hj, hks⟩, hR⟩
end
end Go.RV


set_option linter.unusedVariables false
set_option maxRecDepth 20000
namespace Go.RV
open Go Go.Proofs Go.ChangeShapes Go.WideShapes Go.RowKit
section
variable {W w : World} {r : Reach} {b0 : Nat} {v : Value}
variable {H : Type} {en : TypeId × Value → H} {base : Nat} {spare : Nat → Bool} {held : Bool} {d : DataW H} {ps : List MemPlace}
theorem open_rec (hv : Value.okWide Tryz.prog w r b0 49 v) (h : DataW.Trod en Tryz.prog w base spare held 49 v d ps) :
    ∃ (x : Rx) (h : Hd) (ms : List Sm), v = recV x h ∧ okR x ∧ x.xs.length ≤ 9223372036854775807 ∧ MemR w x h ms := by
  obtain ⟨cs, rfl, hl, hc⟩ := okWide_cells (.inl ⟨_, Tryz.underlying49⟩) (ts := [5, 5, 32, 32, 32, 5, 32, 3, 9, 32, 32, 32, 32, 32, 32, 32, 32, 38, 32, 32, 5, 4, 3, 41, 32, 32, 32, 32, 32, 32, 32, 32, 32, 3, 3, 3]) (by kernel_rfl) (by kernel_rfl) hv
  obtain ⟨a0, a1, a2, a3, a4, a5, a6, a7, a8, f0, f1, f2, f3, f4, f5, f6, f7, l, b0, b1, b2, b3, b4, b5, g0, g1, g2, g3, g4, g5, g6, g7, c0, c1, c2, c3, rfl⟩ := cells36 hl
  obtain ⟨_, e_a0, h_a0⟩ := hc 0 _ rfl
  obtain ⟨_, e_a1, h_a1⟩ := hc 1 _ rfl
  obtain ⟨_, e_a2, h_a2⟩ := hc 2 _ rfl
  obtain ⟨_, e_a3, h_a3⟩ := hc 3 _ rfl
  obtain ⟨_, e_a4, h_a4⟩ := hc 4 _ rfl
  obtain ⟨_, e_a5, h_a5⟩ := hc 5 _ rfl
  obtain ⟨_, e_a6, h_a6⟩ := hc 6 _ rfl
  obtain ⟨_, e_a7, h_a7⟩ := hc 7 _ rfl
  obtain ⟨_, e_a8, h_a8⟩ := hc 8 _ rfl
  obtain ⟨_, e_f0, h_f0⟩ := hc 9 _ rfl
  obtain ⟨_, e_f1, h_f1⟩ := hc 10 _ rfl
  obtain ⟨_, e_f2, h_f2⟩ := hc 11 _ rfl
  obtain ⟨_, e_f3, h_f3⟩ := hc 12 _ rfl
  obtain ⟨_, e_f4, h_f4⟩ := hc 13 _ rfl
  obtain ⟨_, e_f5, h_f5⟩ := hc 14 _ rfl
  obtain ⟨_, e_f6, h_f6⟩ := hc 15 _ rfl
  obtain ⟨_, e_f7, h_f7⟩ := hc 16 _ rfl
  obtain ⟨_, e_l, h_l⟩ := hc 17 _ rfl
  obtain ⟨_, e_b0, h_b0⟩ := hc 18 _ rfl
  obtain ⟨_, e_b1, h_b1⟩ := hc 19 _ rfl
  obtain ⟨_, e_b2, h_b2⟩ := hc 20 _ rfl
  obtain ⟨_, e_b3, h_b3⟩ := hc 21 _ rfl
  obtain ⟨_, e_b4, h_b4⟩ := hc 22 _ rfl
  obtain ⟨_, e_b5, h_b5⟩ := hc 23 _ rfl
  obtain ⟨_, e_g0, h_g0⟩ := hc 24 _ rfl
  obtain ⟨_, e_g1, h_g1⟩ := hc 25 _ rfl
  obtain ⟨_, e_g2, h_g2⟩ := hc 26 _ rfl
  obtain ⟨_, e_g3, h_g3⟩ := hc 27 _ rfl
  obtain ⟨_, e_g4, h_g4⟩ := hc 28 _ rfl
  obtain ⟨_, e_g5, h_g5⟩ := hc 29 _ rfl
  obtain ⟨_, e_g6, h_g6⟩ := hc 30 _ rfl
  obtain ⟨_, e_g7, h_g7⟩ := hc 31 _ rfl
  obtain ⟨_, e_c0, h_c0⟩ := hc 32 _ rfl
  obtain ⟨_, e_c1, h_c1⟩ := hc 33 _ rfl
  obtain ⟨_, e_c2, h_c2⟩ := hc 34 _ rfl
  obtain ⟨_, e_c3, h_c3⟩ := hc 35 _ rfl
  cases e_a0; cases e_a1; cases e_a2; cases e_a3; cases e_a4; cases e_a5; cases e_a6; cases e_a7; cases e_a8; cases e_f0; cases e_f1; cases e_f2; cases e_f3; cases e_f4; cases e_f5; cases e_f6; cases e_f7; cases e_l; cases e_b0; cases e_b1; cases e_b2; cases e_b3; cases e_b4; cases e_b5; cases e_g0; cases e_g1; cases e_g2; cases e_g3; cases e_g4; cases e_g5; cases e_g6; cases e_g7; cases e_c0; cases e_c1; cases e_c2; cases e_c3
  obtain ⟨n_a0, rfl, q_a0⟩ := cell_int Tryz.underlying5 h_a0
  obtain ⟨n_a1, rfl, q_a1⟩ := cell_int Tryz.underlying5 h_a1
  obtain ⟨n_a2, rfl, q_a2⟩ := cell_int Tryz.underlying32 h_a2
  obtain ⟨n_a3, rfl, q_a3⟩ := cell_int Tryz.underlying32 h_a3
  obtain ⟨n_a4, rfl, q_a4⟩ := cell_int Tryz.underlying32 h_a4
  obtain ⟨n_a5, rfl, q_a5⟩ := cell_int Tryz.underlying5 h_a5
  obtain ⟨n_a6, rfl, q_a6⟩ := cell_int Tryz.underlying32 h_a6
  obtain ⟨n_a7, rfl, q_a7⟩ := cell_int Tryz.underlying3 h_a7
  obtain ⟨n_a8, rfl, _⟩ := cell_string Tryz.underlying9 h_a8
  obtain ⟨n_f0, rfl, q_f0⟩ := cell_int Tryz.underlying32 h_f0
  obtain ⟨n_f1, rfl, q_f1⟩ := cell_int Tryz.underlying32 h_f1
  obtain ⟨n_f2, rfl, q_f2⟩ := cell_int Tryz.underlying32 h_f2
  obtain ⟨n_f3, rfl, q_f3⟩ := cell_int Tryz.underlying32 h_f3
  obtain ⟨n_f4, rfl, q_f4⟩ := cell_int Tryz.underlying32 h_f4
  obtain ⟨n_f5, rfl, q_f5⟩ := cell_int Tryz.underlying32 h_f5
  obtain ⟨n_f6, rfl, q_f6⟩ := cell_int Tryz.underlying32 h_f6
  obtain ⟨n_f7, rfl, q_f7⟩ := cell_int Tryz.underlying32 h_f7
  obtain ⟨n_b0, rfl, q_b0⟩ := cell_int Tryz.underlying32 h_b0
  obtain ⟨n_b1, rfl, q_b1⟩ := cell_int Tryz.underlying32 h_b1
  obtain ⟨n_b2, rfl, q_b2⟩ := cell_int Tryz.underlying5 h_b2
  obtain ⟨n_b3, rfl⟩ := cell_bool Tryz.underlying4 h_b3
  obtain ⟨n_b4, rfl, q_b4⟩ := cell_int Tryz.underlying3 h_b4
  obtain ⟨n_g0, rfl, q_g0⟩ := cell_int Tryz.underlying32 h_g0
  obtain ⟨n_g1, rfl, q_g1⟩ := cell_int Tryz.underlying32 h_g1
  obtain ⟨n_g2, rfl, q_g2⟩ := cell_int Tryz.underlying32 h_g2
  obtain ⟨n_g3, rfl, q_g3⟩ := cell_int Tryz.underlying32 h_g3
  obtain ⟨n_g4, rfl, q_g4⟩ := cell_int Tryz.underlying32 h_g4
  obtain ⟨n_g5, rfl, q_g5⟩ := cell_int Tryz.underlying32 h_g5
  obtain ⟨n_g6, rfl, q_g6⟩ := cell_int Tryz.underlying32 h_g6
  obtain ⟨n_g7, rfl, q_g7⟩ := cell_int Tryz.underlying32 h_g7
  obtain ⟨n_c0, rfl, q_c0⟩ := cell_int Tryz.underlying32 h_c0
  obtain ⟨n_c1, rfl, q_c1⟩ := cell_int Tryz.underlying3 h_c1
  obtain ⟨n_c2, rfl, q_c2⟩ := cell_int Tryz.underlying3 h_c2
  obtain ⟨n_c3, rfl, q_c3⟩ := cell_int Tryz.underlying3 h_c3
  have u_l : Value.okWide Tryz.prog w r b0 38 l := by simp only [Value.okWide, Tryz.underlying38]; exact h_l
  have u_b5 : Value.okWide Tryz.prog w r b0 41 b5 := by simp only [Value.okWide, Tryz.underlying41]; exact h_b5
  obtain ⟨fuel, hf⟩ := h
  obtain ⟨xs4, n, _, _, _, hlen, hg⟩ := DataW.trod_struct Tryz.underlying49 hf
  have g := hg 5 _ rfl
  obtain ⟨yr, er⟩ : ∃ y, xs4[5]? = some y := ⟨_, List.getElem?_eq_getElem (by rw [hlen]; decide)⟩
  rw [er] at g
  have k := hg 6 _ rfl
  obtain ⟨yk, ek⟩ : ∃ y, xs4[6]? = some y := ⟨_, List.getElem?_eq_getElem (by rw [hlen]; decide)⟩
  rw [ek] at k
  have cr : Tryz.prog.cellsOf 40 = 9 := by kernel_rfl
  have cv : Tryz.prog.cellsOf 45 = 6 := by kernel_rfl
  simp [cr, Value.cells] at g
  simp [cv, Value.cells] at k
  obtain ⟨z0, z1, mm, _, _, _, g⟩ := trod_struct2 Tryz.underlying40 g
  have cs1 : Tryz.prog.cellsOf 38 = 1 := by kernel_rfl
  have cs2 : Tryz.prog.cellsOf 41 = 1 := by kernel_rfl
  have cs3 : Tryz.prog.cellsOf 43 = 3 := by kernel_rfl
  simp [cs1] at g
  obtain ⟨xs5, n5, _, _, _, hlen5, k⟩ := DataW.trod_struct Tryz.underlying45 k
  replace k := k 3 _ rfl
  obtain ⟨yk, ek⟩ : ∃ y, xs5[3]? = some y := ⟨_, List.getElem?_eq_getElem (by rw [hlen5]; decide)⟩
  rw [ek] at k
  simp [cs3] at k
  obtain ⟨v0, v1, v2, m3, _, _, _, _, k⟩ := Go.Deep.trod_struct3 Tryz.underlying43 k
  simp [cs2] at k
  obtain ⟨_, _, _, q⟩ := okWide_slice Tryz.underlying38 u_l
  obtain ⟨A, c, ms, rfl, hle, hm, hR, hx, _⟩ := open_sibsM u_l ⟨mm, by rw [q] at g ⊢; exact g⟩
  obtain ⟨B, e, ks, eb, hleb, hmb, hRb, hks⟩ := open_nums k
  cases eb
  have hml : maxLen = 9223372036854775807 := rfl
  refine ⟨⟨n_a0, n_a1, n_a2, n_a3, n_a4, n_a5, n_a6, n_a7, n_a8.data.toList, vec8r n_f0 n_f1 n_f2 n_f3 n_f4 n_f5 n_f6 n_f7, ms.map Sm.s, n_b0, n_b1, n_b2, ⟨n_b3, n_b4, ks⟩, vec8r n_g0 n_g1 n_g2 n_g3 n_g4 n_g5 n_g6 n_g7, n_c0, n_c1, n_c2, n_c3⟩, ⟨A, c, B, e⟩, ms, ?_, ?_, ?_, ?_⟩
  · unfold recV recL
    simp only
    rw [strY_dr, List.length_map]
    rfl
  · refine ⟨⟨q_a0.1, q_a0.2⟩, ⟨q_a1.1, q_a1.2⟩, ⟨q_a2.1, q_a2.2⟩, ⟨q_a3.1, q_a3.2⟩, ⟨q_a4.1, q_a4.2⟩, ⟨q_a5.1, q_a5.2⟩, ⟨q_a6.1, q_a6.2⟩, ⟨q_a7.1, q_a7.2⟩, vec8r_ok ⟨q_f0.1, q_f0.2⟩ ⟨q_f1.1, q_f1.2⟩ ⟨q_f2.1, q_f2.2⟩ ⟨q_f3.1, q_f3.2⟩ ⟨q_f4.1, q_f4.2⟩ ⟨q_f5.1, q_f5.2⟩ ⟨q_f6.1, q_f6.2⟩ ⟨q_f7.1, q_f7.2⟩, ?_, ⟨q_b0.1, q_b0.2⟩, ⟨q_b1.1, q_b1.2⟩, ⟨q_b2.1, q_b2.2⟩, ⟨⟨q_b4.1, q_b4.2⟩, hks⟩, vec8r_ok ⟨q_g0.1, q_g0.2⟩ ⟨q_g1.1, q_g1.2⟩ ⟨q_g2.1, q_g2.2⟩ ⟨q_g3.1, q_g3.2⟩ ⟨q_g4.1, q_g4.2⟩ ⟨q_g5.1, q_g5.2⟩ ⟨q_g6.1, q_g6.2⟩ ⟨q_g7.1, q_g7.2⟩, ⟨q_c0.1, q_c0.2⟩, ⟨q_c1.1, q_c1.2⟩, ⟨q_c2.1, q_c2.2⟩, ⟨q_c3.1, q_c3.2⟩⟩
    intro s hs
    obtain ⟨m, hm, rfl⟩ := List.mem_map.1 hs
    exact (hx m hm).1
  · simp only [List.length_map]; omega
  · exact ⟨rfl, ⟨hR, fun m hm => (hx m hm).2⟩, hRb⟩
end
end Go.RV
