/- Texts of mine, packed for a claim (bundle.py). Conditions: none. -/
import Derived.Test.YtlebdkdjjegpgaaGreatK1x5
import Derived.Deep.Strs
import Derived.Deep.Fields
set_option maxRecDepth 20000
set_option linter.unusedVariables false
set_option linter.unusedSimpArgs false
namespace Go.RV
open Go Go.Proofs Go.RowKit

theorem fails18_c (t : List UInt8) (ht : t.length ≤ 1000000) (e : Int) (he : e ≠ 0) (h2 : (takeR t).2 = e) (w : World) :
    Fc Tryz.prog 24 [.string (strY t), .int .i64 e] w fun v w' => v = .bool true ∧ St [] w w' [] := by
  have h1 : (takeR t).1 = [] := by
    rcases takeR_got t with h | h
    · exact absurd (h2 ▸ h.1) he
    · exact h.2
  have hge : (e == e) = true := by simp
  refine fc_i TB_ok Tryz.func24 rfl (by kernel_rfl) ?_
  have hS := Sf.refl w
  repeat ((conv => whnf); first | (apply q_i; focus (intro w1 hS; (conv => whnf); first | exact ⟨rfl, rfl⟩)) | (refine nw_f hS ?_; intro b w1 hS) | (refine as_i hS ?_) | (refine as_i (hS.subs (List.nil_sublist _) (by repeat (first | exact List.Sublist.refl _ | apply List.Sublist.cons_cons | apply List.Sublist.cons))) ?_) | (refine as_i (hS.subs (List.Sublist.refl _) (by repeat (first | exact List.Sublist.refl _ | apply List.Sublist.cons_cons | apply List.Sublist.cons))) ?_) | (refine bar_f hS ?_) | (refine drawf TB_ok rfl (by kernel_rfl) (by kernel_rfl) hS (List.Sublist.refl _) (List.Sublist.refl _) ?_; intro w1 hS) | (refine br_t (by assumption) ?_) | (refine br_f (by assumption) ?_))
  refine fc_m (take18_c t ht _) ?_
  rintro v w1 ⟨A, c, rs, Lv, rfl, hrs, hK, hS'⟩
  rw [h2]
  rw [h1] at hrs
  obtain rfl : rs = [] := List.map_eq_nil_iff.1 hrs.symm
  replace hS := hS.callF hS'
  repeat ((conv => whnf); first | (apply q_i; focus (intro w1 hS; (conv => whnf); first | exact ⟨rfl, rfl⟩)) | (refine nw_f hS ?_; intro b w1 hS) | (refine as_i hS ?_) | (refine as_i (hS.subs (List.nil_sublist _) (by repeat (first | exact List.Sublist.refl _ | apply List.Sublist.cons_cons | apply List.Sublist.cons))) ?_) | (refine as_i (hS.subs (List.Sublist.refl _) (by repeat (first | exact List.Sublist.refl _ | apply List.Sublist.cons_cons | apply List.Sublist.cons))) ?_) | (refine bar_f hS ?_) | (refine drawf TB_ok rfl (by kernel_rfl) (by kernel_rfl) hS (List.Sublist.refl _) (List.Sublist.refl _) ?_; intro w1 hS) | (refine br_t (by assumption) ?_) | (refine br_f (by assumption) ?_))
  exact ⟨congrArg Value.bool hge, hS.nil⟩
theorem recs1 {rs : List Rm} {y : Rx} (h : [y] = rs.map Rm.x) : ∃ r, rs = [r] ∧ r.x = y := by
  cases rs with
  | nil => cases h
  | cons r rs =>
    simp only [List.map_cons, List.cons.injEq] at h
    obtain ⟨h1, h2⟩ := h
    have : rs = [] := List.map_eq_nil_iff.1 h2.symm
    subst this
    exact ⟨r, rfl, h1.symm⟩
theorem backR_few {x : Rx} (hz : fewR x) : fewR (backR x) := by
  have h1 : (backR x).p = [] ∨ (backR x).p = x.p := by
    show (needR x).p = [] ∨ (needR x).p = x.p
    unfold needR
    repeat' split
    all_goals first
      | exact .inl rfl
      | exact .inr rfl
  have h2 : (backR x).xs = [] ∨ (backR x).xs = x.xs := by
    show (needR x).xs = [] ∨ (needR x).xs = x.xs
    unfold needR
    repeat' split
    all_goals first
      | exact .inl rfl
      | exact .inr rfl
  have h3 : (backR x).v = zeroVa ∨ (backR x).v = x.v := by
    show (needR x).v = zeroVa ∨ (needR x).v = x.v
    unfold needR
    repeat' split
    all_goals first
      | exact .inl rfl
      | exact .inr rfl
  refine ⟨?_, ?_, ?_, ?_⟩
  · rcases h1 with h | h <;> rw [h]
    · simp
    · exact hz.p
  · rcases h2 with h | h <;> rw [h]
    · simp
    · exact hz.l
  · rcases h2 with h | h <;> rw [h]
    · intro s hs; cases hs
    · exact hz.el
  · rcases h3 with h | h <;> rw [h]
    · show (0 : Nat) ≤ 20; decide
    · exact hz.v
theorem puts18_c (x : Rx) (ho : okR x) (hz : fewR x) (hc : checkR x = true) (h : Hd) (ms : List Sm) (want : List UInt8) (hw : recT x = want) (w : World) (hx : MemR w x h ms) :
    Fc Tryz.prog 23 [recV x h, .string (strY want)] w fun v w' => v = .bool true ∧ St [] w w' [] := by
  have hwl : want.length ≤ 300 := by rw [← hw]; exact recT_len hc
  have htk : takeR want = ([backR x], 0) := by
    have := take_all [x] (fun y hy => by obtain rfl := List.mem_singleton.1 hy; exact ⟨ho, hc⟩) []
    rw [List.flatMap_cons, List.flatMap_nil, List.append_nil, hw] at this
    exact this
  have hput := fun A c w' => putR_c A c [⟨x, h, ms⟩] (fun y hy => by obtain rfl := List.mem_singleton.1 hy; exact ⟨ho, hz.sz⟩) (by simp) w'
  have hpe : putR ([(⟨x, h, ms⟩ : Rm)].map Rm.x) = (want, 0) := by
    rw [show ([(⟨x, h, ms⟩ : Rm)].map Rm.x) = [x] from rfl, putR1, if_pos hc, hw]
  rw [hpe] at hput
  have hck := fun w' => check18_c x ho hz.sz h ms w'
  rw [hc] at hck
  have heq : streq (strY want) (strY want) = true := by rw [streq_strY]; simp
  have hb := back_lk hc
  have hsm : sameR (backR x) x = true := sameR_iff.2 hb
  have hbf := backR_few hz
  clear hpe
  refine fc_i TB_ok Tryz.func23 rfl (by kernel_rfl) ?_
  have hS := Sf.refl w
  repeat ((conv => whnf); first | (apply q_i; focus (intro w1 hS; (conv => whnf); first | exact ⟨rfl, rfl⟩ | ((refine ld_f hS 0 rfl rfl ?_); (conv => whnf); exact ⟨rfl, rfl⟩) | ((refine ld_f hS 1 rfl rfl ?_); (conv => whnf); exact ⟨rfl, rfl⟩) | ((refine ldA_f hS 0 rfl rfl ?_); (conv => whnf); exact ⟨rfl, rfl⟩) | ((refine ldA_f hS 1 rfl rfl ?_); (conv => whnf); exact ⟨rfl, rfl⟩))) | (refine nw_f hS ?_; intro b w1 hS) | (refine as_i hS ?_) | (refine as_i (hS.subs (List.nil_sublist _) (by repeat (first | exact List.Sublist.refl _ | apply List.Sublist.cons_cons | apply List.Sublist.cons))) ?_) | (refine as_i (hS.subs (List.Sublist.refl _) (by repeat (first | exact List.Sublist.refl _ | apply List.Sublist.cons_cons | apply List.Sublist.cons))) ?_) | (refine bar_f hS ?_) | (refine ld_f hS 0 rfl rfl ?_) | (refine ld_f hS 1 rfl rfl ?_) | (refine ldA_f hS 0 rfl rfl ?_) | (refine ldA_f hS 1 rfl rfl ?_) | (refine stN_f hS 0 rfl (Nat.le_of_ble_eq_true rfl) rfl rfl ?_; (conv => whnf); intro w1 hS) | (refine stN_f hS 1 rfl (Nat.le_of_ble_eq_true rfl) rfl rfl ?_; (conv => whnf); intro w1 hS) | (refine stM_f hS 0 rfl (Nat.le_of_ble_eq_true rfl) rfl ?_; (conv => whnf); intro w1 hS) | (refine stM_f hS 1 rfl (Nat.le_of_ble_eq_true rfl) rfl ?_; (conv => whnf); intro w1 hS) | (refine drawf TB_ok rfl (by kernel_rfl) (by kernel_rfl) hS (List.Sublist.refl _) (List.Sublist.refl _) ?_; intro w1 hS) | (refine br_t (by assumption) ?_) | (refine br_f (by assumption) ?_))
  refine fc_m (hput _ _ _ ⟨hS.rd 0 rfl, fun y hy => by obtain rfl := List.mem_singleton.1 hy; exact hx.below hS.nil⟩) ?_
  rintro v w1 ⟨rfl, hS'⟩
  replace hS := hS.call0 hS'
  repeat ((conv => whnf); first | (apply q_i; focus (intro w1 hS; (conv => whnf); first | exact ⟨rfl, rfl⟩ | ((refine ld_f hS 0 rfl rfl ?_); (conv => whnf); exact ⟨rfl, rfl⟩) | ((refine ld_f hS 1 rfl rfl ?_); (conv => whnf); exact ⟨rfl, rfl⟩) | ((refine ldA_f hS 0 rfl rfl ?_); (conv => whnf); exact ⟨rfl, rfl⟩) | ((refine ldA_f hS 1 rfl rfl ?_); (conv => whnf); exact ⟨rfl, rfl⟩))) | (refine nw_f hS ?_; intro b w1 hS) | (refine as_i hS ?_) | (refine as_i (hS.subs (List.nil_sublist _) (by repeat (first | exact List.Sublist.refl _ | apply List.Sublist.cons_cons | apply List.Sublist.cons))) ?_) | (refine as_i (hS.subs (List.Sublist.refl _) (by repeat (first | exact List.Sublist.refl _ | apply List.Sublist.cons_cons | apply List.Sublist.cons))) ?_) | (refine bar_f hS ?_) | (refine ld_f hS 0 rfl rfl ?_) | (refine ld_f hS 1 rfl rfl ?_) | (refine ldA_f hS 0 rfl rfl ?_) | (refine ldA_f hS 1 rfl rfl ?_) | (refine stN_f hS 0 rfl (Nat.le_of_ble_eq_true rfl) rfl rfl ?_; (conv => whnf); intro w1 hS) | (refine stN_f hS 1 rfl (Nat.le_of_ble_eq_true rfl) rfl rfl ?_; (conv => whnf); intro w1 hS) | (refine stM_f hS 0 rfl (Nat.le_of_ble_eq_true rfl) rfl ?_; (conv => whnf); intro w1 hS) | (refine stM_f hS 1 rfl (Nat.le_of_ble_eq_true rfl) rfl ?_; (conv => whnf); intro w1 hS) | (refine drawf TB_ok rfl (by kernel_rfl) (by kernel_rfl) hS (List.Sublist.refl _) (List.Sublist.refl _) ?_; intro w1 hS) | (refine br_t (by assumption) ?_) | (refine br_f (by assumption) ?_))
  refine fc_m (take18_c want (by omega) _) ?_
  rintro v w2 ⟨A, c, rs, Lv, rfl, hrs, hK, hS'⟩
  rw [htk] at hrs
  rw [htk]
  obtain ⟨r, rfl, hrx⟩ := recs1 hrs
  replace hS := hS.callF hS'
  have hRf : ∀ {w' : World} {F L : LM}, Sf [] w w' (Lv ++ F) L → RdR w' A [r] := fun h => hK _ (h.st.holds (Ls := Lv) (fun y hy => by simp [hy]))
  obtain ⟨b0, off, rfl⟩ := (hRf hS).rd.form (flat_ne encRm_len (by omega) (show 0 < [r].length by simp))
  have hsame := fun (w' : World) => sameR_c r.x x r.h h r.ms ms w'
  rw [hrx, hsm] at hsame
  have hmr : ∀ {w' : World} {F L : LM}, Sf [] w w' (Lv ++ F) L → MemR w' (backR x) r.h r.ms := fun h => by
    have := (hRf h).el r (by simp)
    rwa [hrx] at this
  have hrec : encRm r = recL (backR x) r.h := by unfold encRm; rw [hrx]
  have hld : ∀ {w' : World} {F L : LM} {o n : Nat} {K : List Value → Prop}, Sf [] w w' (Lv ++ F) L → o = off → n = 36 → K (recL (backR x) r.h) → LdN w' ⟨b0, o, none⟩ n K := fun h ho hn hk =>
    ldN_el encRm_len (hRf h).rd.at (i := 0) (by simp) (by omega) hn (by rw [show [r][0] = r from rfl, hrec]; exact hk)
  have hbl := hbf.l
  have hbv := hbf.v
  have hbe := hbf.el
  have hpl := hz.sz
  repeat ((conv => whnf); first | (apply q_i; focus (intro w1 hS; (conv => whnf); first | exact ⟨rfl, rfl⟩ | ((refine ld_f hS 0 rfl rfl ?_); (conv => whnf); exact ⟨rfl, rfl⟩) | ((refine ld_f hS 1 rfl rfl ?_); (conv => whnf); exact ⟨rfl, rfl⟩) | ((refine ldA_f hS 0 rfl rfl ?_); (conv => whnf); exact ⟨rfl, rfl⟩) | ((refine ldA_f hS 1 rfl rfl ?_); (conv => whnf); exact ⟨rfl, rfl⟩) | ((refine .mk ⟨by decide, by simp⟩ ?_; refine ix_i rfl ?_); (conv => whnf); exact ⟨rfl, rfl⟩) | ((refine hld hS rfl rfl ?_); (conv => whnf); exact ⟨rfl, rfl⟩) | ((refine fc_m (hsame _ (hmr hS) (hx.below hS.nil) (by omega) (fun s hs => by have := hbe s hs; omega) (by omega)) ?_; rintro v w3 ⟨rfl, hS'⟩; replace hS := hS.call0 hS'); (conv => whnf); exact ⟨rfl, rfl⟩) | ((refine fc_m (hck _ (hx.below hS.nil)) ?_; rintro v w3 ⟨rfl, hS'⟩; replace hS := hS.call0 hS'); (conv => whnf); exact ⟨rfl, rfl⟩))) | (refine nw_f hS ?_; intro b w1 hS) | (refine as_i hS ?_) | (refine as_i (hS.subs (List.nil_sublist _) (by repeat (first | exact List.Sublist.refl _ | apply List.Sublist.cons_cons | apply List.Sublist.cons))) ?_) | (refine as_i (hS.subs (List.Sublist.refl _) (by repeat (first | exact List.Sublist.refl _ | apply List.Sublist.cons_cons | apply List.Sublist.cons))) ?_) | (refine bar_f hS ?_) | (refine ld_f hS 0 rfl rfl ?_) | (refine ld_f hS 1 rfl rfl ?_) | (refine ldA_f hS 0 rfl rfl ?_) | (refine ldA_f hS 1 rfl rfl ?_) | (refine stN_f hS 0 rfl (Nat.le_of_ble_eq_true rfl) rfl rfl ?_; (conv => whnf); intro w1 hS) | (refine stN_f hS 1 rfl (Nat.le_of_ble_eq_true rfl) rfl rfl ?_; (conv => whnf); intro w1 hS) | (refine stM_f hS 0 rfl (Nat.le_of_ble_eq_true rfl) rfl ?_; (conv => whnf); intro w1 hS) | (refine stM_f hS 1 rfl (Nat.le_of_ble_eq_true rfl) rfl ?_; (conv => whnf); intro w1 hS) | (refine .mk ⟨by decide, by simp⟩ ?_; refine ix_i rfl ?_) | (refine hld hS rfl rfl ?_) | (refine fc_m (hsame _ (hmr hS) (hx.below hS.nil) (by omega) (fun s hs => by have := hbe s hs; omega) (by omega)) ?_; rintro v w3 ⟨rfl, hS'⟩; replace hS := hS.call0 hS') | (refine fc_m (hck _ (hx.below hS.nil)) ?_; rintro v w3 ⟨rfl, hS'⟩; replace hS := hS.call0 hS') | (refine drawf TB_ok rfl (by kernel_rfl) (by kernel_rfl) hS (List.Sublist.refl _) (List.Sublist.refl _) ?_; intro w1 hS) | (refine br_t (by assumption) ?_) | (refine br_f (by assumption) ?_))
  exact ⟨rfl, hS.nil⟩
def wk1 : Rx := { zeroRx 1 with r := 3 }
def wk2 : Rx := { zeroRx 4 with p := [47, 97], f := fun j => if j = 1 then 2 else 0, xs := [⟨1, 2, ⟨true, 0, []⟩⟩] }
theorem wk1_check : checkR wk1 = true := by decide +kernel
theorem wk2_check : checkR wk2 = true := by decide +kernel
theorem wk1_text : recT wk1 = [1, 3] := by decide +kernel
theorem wk2_text : recT wk2 = [4, 2, 47, 97, 2, 0, 2, 1, 1, 0, 2, 1] := by decide +kernel
theorem wk_nine : (takeR [9]).2 = 4 := by decide +kernel
theorem wk_torn : (takeR [1]).2 = 10 := by decide +kernel
end Go.RV


set_option maxRecDepth 20000
set_option linter.unusedVariables false
set_option linter.unusedSimpArgs false
namespace Go.RV
open Go Go.Proofs Go.RowKit

def dirF : Nat → Int := fun j => if j = 1 then 2 else 0
def dirM : Sm := ⟨⟨1, 2, ⟨true, 0, []⟩⟩, none, 0⟩
theorem dir18_c (w : World) : Fc Tryz.prog 26 [] w fun v w' => ∃ q, v = regV dirF (some ⟨q, 0, none⟩) 1 1 ∧ St [] w w' [(q, .cells (encM dirM).toArray 94 (0, 0))] := by
  refine fc_i TB_ok Tryz.func26 rfl (by kernel_rfl) ?_
  have hS := Sf.refl w
  repeat ((conv => whnf); first | (apply q_i; focus (intro w1 hS; (conv => whnf); first | exact ⟨rfl, rfl⟩ | ((refine ld_f hS 0 rfl rfl ?_); (conv => whnf); exact ⟨rfl, rfl⟩) | ((refine ld_f hS 1 rfl rfl ?_); (conv => whnf); exact ⟨rfl, rfl⟩) | ((refine ld_f hS 2 rfl rfl ?_); (conv => whnf); exact ⟨rfl, rfl⟩) | ((refine ldA_f hS 0 rfl rfl ?_); (conv => whnf); exact ⟨rfl, rfl⟩) | ((refine ldA_f hS 1 rfl rfl ?_); (conv => whnf); exact ⟨rfl, rfl⟩) | ((refine ldA_f hS 2 rfl rfl ?_); (conv => whnf); exact ⟨rfl, rfl⟩) | ((refine ldN_f hS 0 rfl (Nat.le_of_ble_eq_true rfl) ?_); (conv => whnf); exact ⟨rfl, rfl⟩) | ((refine ldN_f hS 1 rfl (Nat.le_of_ble_eq_true rfl) ?_); (conv => whnf); exact ⟨rfl, rfl⟩))) | (refine nw_f hS ?_; intro b w1 hS) | (refine as_i hS ?_) | (refine as_i (hS.subs (List.nil_sublist _) (by repeat (first | exact List.Sublist.refl _ | apply List.Sublist.cons_cons | apply List.Sublist.cons))) ?_) | (refine as_i (hS.subs (List.Sublist.refl _) (by repeat (first | exact List.Sublist.refl _ | apply List.Sublist.cons_cons | apply List.Sublist.cons))) ?_) | (refine bar_f hS ?_) | (refine ld_f hS 0 rfl rfl ?_) | (refine ld_f hS 1 rfl rfl ?_) | (refine ld_f hS 2 rfl rfl ?_) | (refine ldA_f hS 0 rfl rfl ?_) | (refine ldA_f hS 1 rfl rfl ?_) | (refine ldA_f hS 2 rfl rfl ?_) | (refine stN_f hS 0 rfl (Nat.le_of_ble_eq_true rfl) rfl rfl ?_; (conv => whnf); intro w1 hS) | (refine stN_f hS 1 rfl (Nat.le_of_ble_eq_true rfl) rfl rfl ?_; (conv => whnf); intro w1 hS) | (refine stN_f hS 2 rfl (Nat.le_of_ble_eq_true rfl) rfl rfl ?_; (conv => whnf); intro w1 hS) | (refine stM_f hS 0 rfl (Nat.le_of_ble_eq_true rfl) rfl ?_; (conv => whnf); intro w1 hS) | (refine stM_f hS 1 rfl (Nat.le_of_ble_eq_true rfl) rfl ?_; (conv => whnf); intro w1 hS) | (refine stM_f hS 2 rfl (Nat.le_of_ble_eq_true rfl) rfl ?_; (conv => whnf); intro w1 hS) | (refine ldN_f hS 0 rfl (Nat.le_of_ble_eq_true rfl) ?_) | (refine ldN_f hS 1 rfl (Nat.le_of_ble_eq_true rfl) ?_) | (refine drawf TB_ok rfl (by kernel_rfl) (by kernel_rfl) hS (List.Sublist.refl _) (List.Sublist.refl _) ?_; intro w1 hS) | (refine br_t (by assumption) ?_) | (refine br_f (by assumption) ?_))
  exact ⟨_, rfl, hS.sub (.cons_cons _ (.cons _ (.refl _)))⟩
theorem wk1_ok : okR wk1 := { zeroRx_ok (k := 1) (by decide) with r := (by show (0 : Int) ≤ 3 ∧ (3 : Int) ≤ 255; decide) }
theorem wk1_few : fewR wk1 := ⟨Nat.zero_le _, Nat.zero_le _, (fun s hs => (nomatch hs)), Nat.zero_le _⟩
theorem dirF_ok : ∀ j, j < 8 → 0 ≤ dirF j ∧ dirF j ≤ 4294967295 := fun j _ => by unfold dirF; split <;> decide
theorem dir_el : okSv dirM.s := ⟨by decide, by decide, by decide, fun k hk => (nomatch hk)⟩
theorem wk2_ok : okR wk2 := { zeroRx_ok (k := 4) (by decide) with f := dirF_ok, xs := fun s hs => by obtain rfl := List.mem_singleton.1 hs; exact dir_el }
theorem wk2_few : fewR wk2 := ⟨by decide, by decide, fun s hs => by obtain rfl := List.mem_singleton.1 hs; exact Nat.zero_le _, Nat.zero_le _⟩
theorem wk2_mem {w : World} {b : Nat} (hR : Rd w (some ⟨b, 0, none⟩) (flat encM [dirM])) : MemR w wk2 ⟨some ⟨b, 0, none⟩, 1, none, 0⟩ [dirM] :=
  ⟨rfl, ⟨hR, fun m hm => by obtain rfl := List.mem_singleton.1 hm; exact .inl rfl⟩, .inl rfl⟩
theorem works18_c (w : World) : Fc Tryz.prog 8 [] w fun v w' => v = .bool true ∧ St [] w w' [] := by
  refine fc_i TB_ok Tryz.func8 rfl (by kernel_rfl) ?_
  have hS := Sf.refl w
  have p1 := fun (w' : World) => puts18_c wk1 wk1_ok wk1_few wk1_check noHd [] [1, 3] wk1_text w' (mem_none wk1 w' rfl rfl)
  have p2 := fun (w' : World) q => puts18_c wk2 wk2_ok wk2_few wk2_check ⟨some ⟨q, 0, none⟩, 1, none, 0⟩ [dirM] [4, 2, 47, 97, 2, 0, 2, 1, 1, 0, 2, 1] wk2_text w'
  have f1 := fun (w' : World) => fails18_c [9] (by decide) 4 (by decide) wk_nine w'
  have f2 := fun (w' : World) => fails18_c [1] (by decide) 10 (by decide) wk_torn w'
  repeat ((conv => whnf); first | (apply q_i; focus (intro w1 hS; (conv => whnf); first | exact ⟨rfl, rfl⟩)) | (refine nw_f hS ?_; intro b w1 hS) | (refine as_i hS ?_) | (refine as_i (hS.subs (List.nil_sublist _) (by repeat (first | exact List.Sublist.refl _ | apply List.Sublist.cons_cons | apply List.Sublist.cons))) ?_) | (refine as_i (hS.subs (List.Sublist.refl _) (by repeat (first | exact List.Sublist.refl _ | apply List.Sublist.cons_cons | apply List.Sublist.cons))) ?_) | (refine bar_f hS ?_) | (refine drawf TB_ok rfl (by kernel_rfl) (by kernel_rfl) hS (List.Sublist.refl _) (List.Sublist.refl _) ?_; intro w1 hS) | (refine br_t (by assumption) ?_) | (refine br_f (by assumption) ?_))
  refine fc_m (p1 _) ?_
  rintro v w1 ⟨rfl, hS'⟩
  replace hS := hS.call0 hS'
  repeat ((conv => whnf); first | (apply q_i; focus (intro w1 hS; (conv => whnf); first | exact ⟨rfl, rfl⟩)) | (refine nw_f hS ?_; intro b w1 hS) | (refine as_i hS ?_) | (refine as_i (hS.subs (List.nil_sublist _) (by repeat (first | exact List.Sublist.refl _ | apply List.Sublist.cons_cons | apply List.Sublist.cons))) ?_) | (refine as_i (hS.subs (List.Sublist.refl _) (by repeat (first | exact List.Sublist.refl _ | apply List.Sublist.cons_cons | apply List.Sublist.cons))) ?_) | (refine bar_f hS ?_) | (refine drawf TB_ok rfl (by kernel_rfl) (by kernel_rfl) hS (List.Sublist.refl _) (List.Sublist.refl _) ?_; intro w1 hS) | (refine br_t (by assumption) ?_) | (refine br_f (by assumption) ?_))
  refine fc_m (dir18_c _) ?_
  rintro v w2 ⟨q, rfl, hS'⟩
  replace hS := hS.call' hS'
  repeat ((conv => whnf); first | (apply q_i; focus (intro w1 hS; (conv => whnf); first | exact ⟨rfl, rfl⟩ | ((refine ld_f hS 0 rfl rfl ?_); (conv => whnf); exact ⟨rfl, rfl⟩) | ((refine ldA_f hS 0 rfl rfl ?_); (conv => whnf); exact ⟨rfl, rfl⟩))) | (refine nw_f hS ?_; intro b w1 hS) | (refine as_i hS ?_) | (refine as_i (hS.subs (List.nil_sublist _) (by repeat (first | exact List.Sublist.refl _ | apply List.Sublist.cons_cons | apply List.Sublist.cons))) ?_) | (refine as_i (hS.subs (List.Sublist.refl _) (by repeat (first | exact List.Sublist.refl _ | apply List.Sublist.cons_cons | apply List.Sublist.cons))) ?_) | (refine bar_f hS ?_) | (refine ld_f hS 0 rfl rfl ?_) | (refine ldA_f hS 0 rfl rfl ?_) | (refine stN_f hS 0 rfl (Nat.le_of_ble_eq_true rfl) rfl rfl ?_; (conv => whnf); intro w1 hS) | (refine stM_f hS 0 rfl (Nat.le_of_ble_eq_true rfl) rfl ?_; (conv => whnf); intro w1 hS) | (refine drawf TB_ok rfl (by kernel_rfl) (by kernel_rfl) hS (List.Sublist.refl _) (List.Sublist.refl _) ?_; intro w1 hS) | (refine br_t (by assumption) ?_) | (refine br_f (by assumption) ?_))
  refine fc_m (p2 _ q (wk2_mem (hS.rd 0 rfl))) ?_
  rintro v w3 ⟨rfl, hS'⟩
  replace hS := hS.call0 hS'
  repeat ((conv => whnf); first | (apply q_i; focus (intro w1 hS; (conv => whnf); first | exact ⟨rfl, rfl⟩ | ((refine ld_f hS 0 rfl rfl ?_); (conv => whnf); exact ⟨rfl, rfl⟩) | ((refine ldA_f hS 0 rfl rfl ?_); (conv => whnf); exact ⟨rfl, rfl⟩) | ((refine fc_m (f1 _) ?_; rintro v w3 ⟨rfl, hS'⟩; replace hS := hS.call0 hS'); (conv => whnf); exact ⟨rfl, rfl⟩) | ((refine fc_m (f2 _) ?_; rintro v w3 ⟨rfl, hS'⟩; replace hS := hS.call0 hS'); (conv => whnf); exact ⟨rfl, rfl⟩))) | (refine nw_f hS ?_; intro b w1 hS) | (refine as_i hS ?_) | (refine as_i (hS.subs (List.nil_sublist _) (by repeat (first | exact List.Sublist.refl _ | apply List.Sublist.cons_cons | apply List.Sublist.cons))) ?_) | (refine as_i (hS.subs (List.Sublist.refl _) (by repeat (first | exact List.Sublist.refl _ | apply List.Sublist.cons_cons | apply List.Sublist.cons))) ?_) | (refine bar_f hS ?_) | (refine ld_f hS 0 rfl rfl ?_) | (refine ldA_f hS 0 rfl rfl ?_) | (refine stN_f hS 0 rfl (Nat.le_of_ble_eq_true rfl) rfl rfl ?_; (conv => whnf); intro w1 hS) | (refine stM_f hS 0 rfl (Nat.le_of_ble_eq_true rfl) rfl ?_; (conv => whnf); intro w1 hS) | (refine fc_m (f1 _) ?_; rintro v w3 ⟨rfl, hS'⟩; replace hS := hS.call0 hS') | (refine fc_m (f2 _) ?_; rintro v w3 ⟨rfl, hS'⟩; replace hS := hS.call0 hS') | (refine drawf TB_ok rfl (by kernel_rfl) (by kernel_rfl) hS (List.Sublist.refl _) (List.Sublist.refl _) ?_; intro w1 hS) | (refine br_t (by assumption) ?_) | (refine br_f (by assumption) ?_))
  exact ⟨rfl, hS.nil⟩
end Go.RV


set_option maxRecDepth 20000
set_option linter.unusedVariables false
set_option linter.unusedSimpArgs false
namespace Go.RV
open Go Go.Proofs Go.RowKit

section
variable {w w' : World} {A : Option Addr} {rs : List Rm} {i o n b0 off : Nat}
theorem ld_rec (hR : Rd w (some ⟨b0, off, none⟩) (flat encRm rs)) (hi : i < rs.length) (ho : o = off + i * 36) (hn : n = 36) {K : List Value → Prop} (k : K (recL rs[i].x rs[i].h)) : LdN w ⟨b0, o, none⟩ n K :=
  ldN_el encRm_len hR.at (i := i) hi ho hn k
end
theorem putR2 (x y : Rx) : putR [x, y] = if checkR x = true ∧ checkR y = true then (recT x ++ recT y, 0) else ([], 4) := by
  unfold putR
  by_cases h1 : checkR x = true <;> by_cases h2 : checkR y = true <;> simp [h1, h2]
theorem recs_ok {t : List UInt8} {rs : List Rm} (h : (takeR t).1 = rs.map Rm.x) : ∀ r ∈ rs, okR r.x ∧ szR r.x := fun r hr => by
  have := takeR_ok t r.x (by rw [h]; exact List.mem_map_of_mem hr)
  exact ⟨this.1, this.2.1.sz⟩
theorem recs_len {t : List UInt8} {rs : List Rm} (h : (takeR t).1 = rs.map Rm.x) : rs.length ≤ t.length := by
  have h1 := takeA_len t.length t [] (Nat.le_refl _)
  have h2 : (takeA t []).1 = rs.map Rm.x := h
  rw [h2, List.length_map] at h1
  simpa using h1
theorem recT_pos (x : Rx) : 0 < (recT x).length := by
  unfold recT
  rw [List.length_append, be_len]
  omega
set_option maxHeartbeats 16000000 in
theorem recordBack_c (x y : Rx) (ho : okR x) (hoy : okR y) (h k : Hd) (ms ns : List Sm) (t : List UInt8) (hlx : x.xs.length ≤ 9223372036854775807) (hly : y.xs.length ≤ 9223372036854775807) (w : World) (hx : MemR w x h ms) (hy : MemR w y k ns) :
    Fc Tryz.prog 4 [recV x h, recV y k, .string (strY t)] w fun v w' => v = .bool true ∧ St [] w w' [] := by
  have htz := strY_size t
  refine fc_i TB_ok Tryz.func4 rfl (by kernel_rfl) ?_
  have hS := Sf.refl w
  repeat ((conv => whnf); first | (apply q_i; focus (intro w1 hS; (conv => whnf); first | exact ⟨rfl, rfl⟩ | ((refine ld_f hS 0 rfl rfl ?_); (conv => whnf); exact ⟨rfl, rfl⟩) | ((refine ld_f hS 1 rfl rfl ?_); (conv => whnf); exact ⟨rfl, rfl⟩) | ((refine ldA_f hS 0 rfl rfl ?_); (conv => whnf); exact ⟨rfl, rfl⟩) | ((refine ldA_f hS 1 rfl rfl ?_); (conv => whnf); exact ⟨rfl, rfl⟩) | ((refine ldN_f hS 0 rfl (Nat.le_of_ble_eq_true rfl) ?_); (conv => whnf); exact ⟨rfl, rfl⟩))) | (refine nw_f hS ?_; intro b w1 hS) | (refine as_i hS ?_) | (refine as_i (hS.subs (List.nil_sublist _) (by repeat (first | exact List.Sublist.refl _ | apply List.Sublist.cons_cons | apply List.Sublist.cons))) ?_) | (refine as_i (hS.subs (List.Sublist.refl _) (by repeat (first | exact List.Sublist.refl _ | apply List.Sublist.cons_cons | apply List.Sublist.cons))) ?_) | (refine bar_f hS ?_) | (refine ld_f hS 0 rfl rfl ?_) | (refine ld_f hS 1 rfl rfl ?_) | (refine ldA_f hS 0 rfl rfl ?_) | (refine ldA_f hS 1 rfl rfl ?_) | (refine stN_f hS 0 rfl (Nat.le_of_ble_eq_true rfl) rfl rfl ?_; (conv => whnf); intro w1 hS) | (refine stN_f hS 1 rfl (Nat.le_of_ble_eq_true rfl) rfl rfl ?_; (conv => whnf); intro w1 hS) | (refine stM_f hS 0 rfl (Nat.le_of_ble_eq_true rfl) rfl ?_; (conv => whnf); intro w1 hS) | (refine stM_f hS 1 rfl (Nat.le_of_ble_eq_true rfl) rfl ?_; (conv => whnf); intro w1 hS) | (refine ldN_f hS 0 rfl (Nat.le_of_ble_eq_true rfl) ?_) | (refine br_t (by assumption) ?_) | (refine br_f (by assumption) ?_))
  refine fc_m (few18_c x h ms _ (hx.below hS.nil) hlx) ?_
  rintro v w1 ⟨⟨q1, rfl, hq1⟩, hS'⟩
  replace hS := hS.call0 hS'
  cases q1 with
  | false =>
    repeat ((conv => whnf); first | (apply q_i; focus (intro w1 hS; (conv => whnf); first | exact ⟨rfl, rfl⟩ | ((refine ld_f hS 0 rfl rfl ?_); (conv => whnf); exact ⟨rfl, rfl⟩) | ((refine ld_f hS 1 rfl rfl ?_); (conv => whnf); exact ⟨rfl, rfl⟩) | ((refine ldA_f hS 0 rfl rfl ?_); (conv => whnf); exact ⟨rfl, rfl⟩) | ((refine ldA_f hS 1 rfl rfl ?_); (conv => whnf); exact ⟨rfl, rfl⟩) | ((refine fc_m (works18_c _) ?_; rintro v w3 ⟨rfl, hS'⟩; replace hS := hS.call0 hS'); (conv => whnf); exact ⟨rfl, rfl⟩))) | (refine nw_f hS ?_; intro b w1 hS) | (refine as_i hS ?_) | (refine as_i (hS.subs (List.nil_sublist _) (by repeat (first | exact List.Sublist.refl _ | apply List.Sublist.cons_cons | apply List.Sublist.cons))) ?_) | (refine as_i (hS.subs (List.Sublist.refl _) (by repeat (first | exact List.Sublist.refl _ | apply List.Sublist.cons_cons | apply List.Sublist.cons))) ?_) | (refine bar_f hS ?_) | (refine ld_f hS 0 rfl rfl ?_) | (refine ld_f hS 1 rfl rfl ?_) | (refine ldA_f hS 0 rfl rfl ?_) | (refine ldA_f hS 1 rfl rfl ?_) | (refine stN_f hS 0 rfl (Nat.le_of_ble_eq_true rfl) rfl rfl ?_; (conv => whnf); intro w1 hS) | (refine stN_f hS 1 rfl (Nat.le_of_ble_eq_true rfl) rfl rfl ?_; (conv => whnf); intro w1 hS) | (refine stM_f hS 0 rfl (Nat.le_of_ble_eq_true rfl) rfl ?_; (conv => whnf); intro w1 hS) | (refine stM_f hS 1 rfl (Nat.le_of_ble_eq_true rfl) rfl ?_; (conv => whnf); intro w1 hS) | (refine fc_m (works18_c _) ?_; rintro v w3 ⟨rfl, hS'⟩; replace hS := hS.call0 hS') | (refine br_t (by assumption) ?_) | (refine br_f (by assumption) ?_))
    exact ⟨rfl, hS.nil⟩
  | true =>
  have hzx := hq1 rfl
  clear hq1
  repeat ((conv => whnf); first | (apply q_i; focus (intro w1 hS; (conv => whnf); first | exact ⟨rfl, rfl⟩ | ((refine ld_f hS 0 rfl rfl ?_); (conv => whnf); exact ⟨rfl, rfl⟩) | ((refine ld_f hS 1 rfl rfl ?_); (conv => whnf); exact ⟨rfl, rfl⟩) | ((refine ldA_f hS 0 rfl rfl ?_); (conv => whnf); exact ⟨rfl, rfl⟩) | ((refine ldA_f hS 1 rfl rfl ?_); (conv => whnf); exact ⟨rfl, rfl⟩))) | (refine nw_f hS ?_; intro b w1 hS) | (refine as_i hS ?_) | (refine as_i (hS.subs (List.nil_sublist _) (by repeat (first | exact List.Sublist.refl _ | apply List.Sublist.cons_cons | apply List.Sublist.cons))) ?_) | (refine as_i (hS.subs (List.Sublist.refl _) (by repeat (first | exact List.Sublist.refl _ | apply List.Sublist.cons_cons | apply List.Sublist.cons))) ?_) | (refine bar_f hS ?_) | (refine ld_f hS 0 rfl rfl ?_) | (refine ld_f hS 1 rfl rfl ?_) | (refine ldA_f hS 0 rfl rfl ?_) | (refine ldA_f hS 1 rfl rfl ?_) | (refine stN_f hS 0 rfl (Nat.le_of_ble_eq_true rfl) rfl rfl ?_; (conv => whnf); intro w1 hS) | (refine stN_f hS 1 rfl (Nat.le_of_ble_eq_true rfl) rfl rfl ?_; (conv => whnf); intro w1 hS) | (refine stM_f hS 0 rfl (Nat.le_of_ble_eq_true rfl) rfl ?_; (conv => whnf); intro w1 hS) | (refine stM_f hS 1 rfl (Nat.le_of_ble_eq_true rfl) rfl ?_; (conv => whnf); intro w1 hS) | (refine br_t (by assumption) ?_) | (refine br_f (by assumption) ?_))
  refine fc_m (few18_c y k ns _ (hy.below hS.nil) hly) ?_
  rintro v w1 ⟨⟨q2, rfl, hq2⟩, hS'⟩
  replace hS := hS.call0 hS'
  cases q2 with
  | false =>
    repeat ((conv => whnf); first | (apply q_i; focus (intro w1 hS; (conv => whnf); first | exact ⟨rfl, rfl⟩ | ((refine ld_f hS 0 rfl rfl ?_); (conv => whnf); exact ⟨rfl, rfl⟩) | ((refine ld_f hS 1 rfl rfl ?_); (conv => whnf); exact ⟨rfl, rfl⟩) | ((refine ldA_f hS 0 rfl rfl ?_); (conv => whnf); exact ⟨rfl, rfl⟩) | ((refine ldA_f hS 1 rfl rfl ?_); (conv => whnf); exact ⟨rfl, rfl⟩) | ((refine fc_m (works18_c _) ?_; rintro v w3 ⟨rfl, hS'⟩; replace hS := hS.call0 hS'); (conv => whnf); exact ⟨rfl, rfl⟩))) | (refine nw_f hS ?_; intro b w1 hS) | (refine as_i hS ?_) | (refine as_i (hS.subs (List.nil_sublist _) (by repeat (first | exact List.Sublist.refl _ | apply List.Sublist.cons_cons | apply List.Sublist.cons))) ?_) | (refine as_i (hS.subs (List.Sublist.refl _) (by repeat (first | exact List.Sublist.refl _ | apply List.Sublist.cons_cons | apply List.Sublist.cons))) ?_) | (refine bar_f hS ?_) | (refine ld_f hS 0 rfl rfl ?_) | (refine ld_f hS 1 rfl rfl ?_) | (refine ldA_f hS 0 rfl rfl ?_) | (refine ldA_f hS 1 rfl rfl ?_) | (refine stN_f hS 0 rfl (Nat.le_of_ble_eq_true rfl) rfl rfl ?_; (conv => whnf); intro w1 hS) | (refine stN_f hS 1 rfl (Nat.le_of_ble_eq_true rfl) rfl rfl ?_; (conv => whnf); intro w1 hS) | (refine stM_f hS 0 rfl (Nat.le_of_ble_eq_true rfl) rfl ?_; (conv => whnf); intro w1 hS) | (refine stM_f hS 1 rfl (Nat.le_of_ble_eq_true rfl) rfl ?_; (conv => whnf); intro w1 hS) | (refine fc_m (works18_c _) ?_; rintro v w3 ⟨rfl, hS'⟩; replace hS := hS.call0 hS') | (refine br_t (by assumption) ?_) | (refine br_f (by assumption) ?_))
    exact ⟨rfl, hS.nil⟩
  | true =>
  have hzy := hq2 rfl
  clear hq2
  by_cases ht : 3000 < t.length
  · have gl : decide ((3000 : Int) < ((strY t).size : Int)) = true := decide_eq_true (by omega)
    repeat ((conv => whnf); first | (apply q_i; focus (intro w1 hS; (conv => whnf); first | exact ⟨rfl, rfl⟩ | ((refine ld_f hS 0 rfl rfl ?_); (conv => whnf); exact ⟨rfl, rfl⟩) | ((refine ld_f hS 1 rfl rfl ?_); (conv => whnf); exact ⟨rfl, rfl⟩) | ((refine ldA_f hS 0 rfl rfl ?_); (conv => whnf); exact ⟨rfl, rfl⟩) | ((refine ldA_f hS 1 rfl rfl ?_); (conv => whnf); exact ⟨rfl, rfl⟩) | ((refine fc_m (works18_c _) ?_; rintro v w3 ⟨rfl, hS'⟩; replace hS := hS.call0 hS'); (conv => whnf); exact ⟨rfl, rfl⟩))) | (refine nw_f hS ?_; intro b w1 hS) | (refine as_i hS ?_) | (refine as_i (hS.subs (List.nil_sublist _) (by repeat (first | exact List.Sublist.refl _ | apply List.Sublist.cons_cons | apply List.Sublist.cons))) ?_) | (refine as_i (hS.subs (List.Sublist.refl _) (by repeat (first | exact List.Sublist.refl _ | apply List.Sublist.cons_cons | apply List.Sublist.cons))) ?_) | (refine bar_f hS ?_) | (refine ld_f hS 0 rfl rfl ?_) | (refine ld_f hS 1 rfl rfl ?_) | (refine ldA_f hS 0 rfl rfl ?_) | (refine ldA_f hS 1 rfl rfl ?_) | (refine stN_f hS 0 rfl (Nat.le_of_ble_eq_true rfl) rfl rfl ?_; (conv => whnf); intro w1 hS) | (refine stN_f hS 1 rfl (Nat.le_of_ble_eq_true rfl) rfl rfl ?_; (conv => whnf); intro w1 hS) | (refine stM_f hS 0 rfl (Nat.le_of_ble_eq_true rfl) rfl ?_; (conv => whnf); intro w1 hS) | (refine stM_f hS 1 rfl (Nat.le_of_ble_eq_true rfl) rfl ?_; (conv => whnf); intro w1 hS) | (refine fc_m (works18_c _) ?_; rintro v w3 ⟨rfl, hS'⟩; replace hS := hS.call0 hS') | (refine br_t (by assumption) ?_) | (refine br_f (by assumption) ?_))
    exact ⟨rfl, hS.nil⟩
  have gl : decide ((3000 : Int) < ((strY t).size : Int)) = false := decide_eq_false (by omega)
  have h2 : ∀ r ∈ [(⟨x, h, ms⟩ : Rm), ⟨y, k, ns⟩], okR r.x ∧ szR r.x := fun r hr => by
    rcases List.mem_cons.1 hr with rfl | hr
    · exact ⟨ho, hzx.sz⟩
    · obtain rfl := List.mem_singleton.1 hr
      exact ⟨hoy, hzy.sz⟩
  have hpe : putR ([(⟨x, h, ms⟩ : Rm), ⟨y, k, ns⟩].map Rm.x) = if checkR x = true ∧ checkR y = true then (recT x ++ recT y, 0) else ([], 4) := putR2 x y
  have el2 : ∀ {w' : World}, St [] w w' [] → ∀ r ∈ [(⟨x, h, ms⟩ : Rm), ⟨y, k, ns⟩], MemR w' r.x r.h r.ms := fun hs r hr => by
    rcases List.mem_cons.1 hr with rfl | hr
    · exact hx.below hs
    · obtain rfl := List.mem_singleton.1 hr
      exact hy.below hs
  repeat ((conv => whnf); first | (apply q_i; focus (intro w1 hS; (conv => whnf); first | exact ⟨rfl, rfl⟩ | ((refine ld_f hS 0 rfl rfl ?_); (conv => whnf); exact ⟨rfl, rfl⟩) | ((refine ld_f hS 1 rfl rfl ?_); (conv => whnf); exact ⟨rfl, rfl⟩) | ((refine ldA_f hS 0 rfl rfl ?_); (conv => whnf); exact ⟨rfl, rfl⟩) | ((refine ldA_f hS 1 rfl rfl ?_); (conv => whnf); exact ⟨rfl, rfl⟩))) | (refine nw_f hS ?_; intro b w1 hS) | (refine as_i hS ?_) | (refine as_i (hS.subs (List.nil_sublist _) (by repeat (first | exact List.Sublist.refl _ | apply List.Sublist.cons_cons | apply List.Sublist.cons))) ?_) | (refine as_i (hS.subs (List.Sublist.refl _) (by repeat (first | exact List.Sublist.refl _ | apply List.Sublist.cons_cons | apply List.Sublist.cons))) ?_) | (refine bar_f hS ?_) | (refine ld_f hS 0 rfl rfl ?_) | (refine ld_f hS 1 rfl rfl ?_) | (refine ldA_f hS 0 rfl rfl ?_) | (refine ldA_f hS 1 rfl rfl ?_) | (refine stN_f hS 0 rfl (Nat.le_of_ble_eq_true rfl) rfl rfl ?_; (conv => whnf); intro w1 hS) | (refine stN_f hS 1 rfl (Nat.le_of_ble_eq_true rfl) rfl rfl ?_; (conv => whnf); intro w1 hS) | (refine stM_f hS 0 rfl (Nat.le_of_ble_eq_true rfl) rfl ?_; (conv => whnf); intro w1 hS) | (refine stM_f hS 1 rfl (Nat.le_of_ble_eq_true rfl) rfl ?_; (conv => whnf); intro w1 hS) | (refine br_t (by assumption) ?_) | (refine br_f (by assumption) ?_))
  (conv => whnf)
  by_cases hc : checkR x = true ∧ checkR y = true
  · rw [if_pos hc] at hpe
    obtain ⟨e8, he8⟩ : ∃ e : Int, e = 0 := ⟨0, rfl⟩
    have hput : ∀ A c w', RdR w' A [⟨x, h, ms⟩, ⟨y, k, ns⟩] → Fc Tryz.prog 13 [.slice A 2 c] w' fun v w'' => v = .tuple #[.string (strY (recT x ++ recT y)), .int .i64 e8] ∧ St [] w' w'' [] := fun A c w' hR => by
      have := putR_c A c [⟨x, h, ms⟩, ⟨y, k, ns⟩] h2 (by simp) w' hR
      rw [hpe] at this
      rw [he8]
      exact this
    have hputx : ∀ A c w', RdR w' A [⟨x, h, ms⟩] → Fc Tryz.prog 13 [.slice A 1 c] w' fun v w'' => v = .tuple #[.string (strY (recT x)), .int .i64 e8] ∧ St [] w' w'' [] := fun A c w' hR => by
      have := putR_c A c [⟨x, h, ms⟩] (fun r hr => h2 r (by simp_all)) (by simp) w' hR
      rw [show ([(⟨x, h, ms⟩ : Rm)].map Rm.x) = [x] from rfl, putR1, if_pos hc.1] at this
      rw [he8]
      exact this
    have hputy : ∀ A c w', RdR w' A [⟨y, k, ns⟩] → Fc Tryz.prog 13 [.slice A 1 c] w' fun v w'' => v = .tuple #[.string (strY (recT y)), .int .i64 e8] ∧ St [] w' w'' [] := fun A c w' hR => by
      have := putR_c A c [⟨y, k, ns⟩] (fun r hr => h2 r (by simp_all)) (by simp) w' hR
      rw [show ([(⟨y, k, ns⟩ : Rm)].map Rm.x) = [y] from rfl, putR1, if_pos hc.2] at this
      rw [he8]
      exact this
    have g8 : (e8 == 0) = true := by rw [he8]; rfl
    have g8n : (e8 != 0) = false := by rw [he8]; rfl
    have hlx2 := recT_len hc.1
    have hly2 := recT_len hc.2
    have htk : takeR (recT x ++ recT y) = ([backR x, backR y], 0) := by
      have := take_all [x, y] (fun z hz => by
        rcases List.mem_cons.1 hz with rfl | hz
        · exact ⟨ho, hc.1⟩
        · obtain rfl := List.mem_singleton.1 hz
          exact ⟨hoy, hc.2⟩) []
      rw [List.flatMap_cons, List.flatMap_cons, List.flatMap_nil, List.append_nil] at this
      exact this
    refine fc_m (hput _ _ _ ⟨hS.rd 0 rfl, el2 hS.nil⟩) ?_
    rintro v w3 ⟨rfl, hS'⟩
    replace hS := hS.call0 hS'
    repeat ((conv => whnf); first | (apply q_i; focus (intro w1 hS; (conv => whnf); first | exact ⟨rfl, rfl⟩ | ((refine ld_f hS 0 rfl rfl ?_); (conv => whnf); exact ⟨rfl, rfl⟩) | ((refine ld_f hS 1 rfl rfl ?_); (conv => whnf); exact ⟨rfl, rfl⟩) | ((refine ld_f hS 2 rfl rfl ?_); (conv => whnf); exact ⟨rfl, rfl⟩) | ((refine ldA_f hS 0 rfl rfl ?_); (conv => whnf); exact ⟨rfl, rfl⟩) | ((refine ldA_f hS 1 rfl rfl ?_); (conv => whnf); exact ⟨rfl, rfl⟩) | ((refine ldA_f hS 2 rfl rfl ?_); (conv => whnf); exact ⟨rfl, rfl⟩))) | (refine nw_f hS ?_; intro b w1 hS) | (refine as_i hS ?_) | (refine as_i (hS.subs (List.nil_sublist _) (by repeat (first | exact List.Sublist.refl _ | apply List.Sublist.cons_cons | apply List.Sublist.cons))) ?_) | (refine as_i (hS.subs (List.Sublist.refl _) (by repeat (first | exact List.Sublist.refl _ | apply List.Sublist.cons_cons | apply List.Sublist.cons))) ?_) | (refine bar_f hS ?_) | (refine ld_f hS 0 rfl rfl ?_) | (refine ld_f hS 1 rfl rfl ?_) | (refine ld_f hS 2 rfl rfl ?_) | (refine ldA_f hS 0 rfl rfl ?_) | (refine ldA_f hS 1 rfl rfl ?_) | (refine ldA_f hS 2 rfl rfl ?_) | (refine stN_f hS 0 rfl (Nat.le_of_ble_eq_true rfl) rfl rfl ?_; (conv => whnf); intro w1 hS) | (refine stN_f hS 1 rfl (Nat.le_of_ble_eq_true rfl) rfl rfl ?_; (conv => whnf); intro w1 hS) | (refine stN_f hS 2 rfl (Nat.le_of_ble_eq_true rfl) rfl rfl ?_; (conv => whnf); intro w1 hS) | (refine stM_f hS 0 rfl (Nat.le_of_ble_eq_true rfl) rfl ?_; (conv => whnf); intro w1 hS) | (refine stM_f hS 1 rfl (Nat.le_of_ble_eq_true rfl) rfl ?_; (conv => whnf); intro w1 hS) | (refine stM_f hS 2 rfl (Nat.le_of_ble_eq_true rfl) rfl ?_; (conv => whnf); intro w1 hS) | (refine br_t (by assumption) ?_) | (refine br_f (by assumption) ?_))
    refine fc_m (take18_c (recT x ++ recT y) (by simp; omega) _) ?_
    rintro v w4 ⟨A1, c1, rs1, Lv1, rfl, hrs1, hK1, hS'⟩
    replace hS := hS.callF hS'
    have hR1 : ∀ {w' : World} {F L : LM}, Sf [] w w' (Lv1 ++ F) L → RdR w' A1 rs1 := fun h => hK1 _ (h.st.holds (Ls := Lv1) (fun y hy => by simp [hy]))
    have hn2 : rs1.length = 2 := by
      have := congrArg List.length hrs1
      rw [htk, List.length_map] at this
      exact this.symm
    have hx0 : (rs1[0]'(by omega)).x = backR x := by
      have h9 : (rs1.map Rm.x)[0]? = some (backR x) := by rw [← hrs1, htk]; rfl
      rw [List.getElem?_map, List.getElem?_eq_getElem (by omega)] at h9
      simpa using h9
    have hy1 : (rs1[1]'(by omega)).x = backR y := by
      have h9 : (rs1.map Rm.x)[1]? = some (backR y) := by rw [← hrs1, htk]; rfl
      rw [List.getElem?_map, List.getElem?_eq_getElem (by omega)] at h9
      simpa using h9
    have gz : ((takeR (recT x ++ recT y)).2 != 0) = false := by rw [htk]; rfl
    have g2 : ((rs1.length : Int) != 2) = false := by rw [hn2]; rfl
    repeat ((conv => whnf); first | (apply q_i; focus (intro w1 hS; (conv => whnf); first | exact ⟨rfl, rfl⟩ | ((refine ld_f hS 0 rfl rfl ?_); (conv => whnf); exact ⟨rfl, rfl⟩) | ((refine ld_f hS 1 rfl rfl ?_); (conv => whnf); exact ⟨rfl, rfl⟩) | ((refine ld_f hS 2 rfl rfl ?_); (conv => whnf); exact ⟨rfl, rfl⟩) | ((refine ldA_f hS 0 rfl rfl ?_); (conv => whnf); exact ⟨rfl, rfl⟩) | ((refine ldA_f hS 1 rfl rfl ?_); (conv => whnf); exact ⟨rfl, rfl⟩) | ((refine ldA_f hS 2 rfl rfl ?_); (conv => whnf); exact ⟨rfl, rfl⟩))) | (refine nw_f hS ?_; intro b w1 hS) | (refine as_i hS ?_) | (refine as_i (hS.subs (List.nil_sublist _) (by repeat (first | exact List.Sublist.refl _ | apply List.Sublist.cons_cons | apply List.Sublist.cons))) ?_) | (refine as_i (hS.subs (List.Sublist.refl _) (by repeat (first | exact List.Sublist.refl _ | apply List.Sublist.cons_cons | apply List.Sublist.cons))) ?_) | (refine bar_f hS ?_) | (refine ld_f hS 0 rfl rfl ?_) | (refine ld_f hS 1 rfl rfl ?_) | (refine ld_f hS 2 rfl rfl ?_) | (refine ldA_f hS 0 rfl rfl ?_) | (refine ldA_f hS 1 rfl rfl ?_) | (refine ldA_f hS 2 rfl rfl ?_) | (refine stN_f hS 0 rfl (Nat.le_of_ble_eq_true rfl) rfl rfl ?_; (conv => whnf); intro w1 hS) | (refine stN_f hS 1 rfl (Nat.le_of_ble_eq_true rfl) rfl rfl ?_; (conv => whnf); intro w1 hS) | (refine stN_f hS 2 rfl (Nat.le_of_ble_eq_true rfl) rfl rfl ?_; (conv => whnf); intro w1 hS) | (refine stM_f hS 0 rfl (Nat.le_of_ble_eq_true rfl) rfl ?_; (conv => whnf); intro w1 hS) | (refine stM_f hS 1 rfl (Nat.le_of_ble_eq_true rfl) rfl ?_; (conv => whnf); intro w1 hS) | (refine stM_f hS 2 rfl (Nat.le_of_ble_eq_true rfl) rfl ?_; (conv => whnf); intro w1 hS) | (refine br_t (by assumption) ?_) | (refine br_f (by assumption) ?_))
    refine fc_m (hputx _ _ _ ⟨hS.rd 0 rfl, fun r hr => el2 hS.nil r (by simp_all)⟩) ?_
    rintro v w5 ⟨rfl, hS'⟩
    replace hS := hS.call0 hS'
    repeat ((conv => whnf); first | (apply q_i; focus (intro w1 hS; (conv => whnf); first | exact ⟨rfl, rfl⟩ | ((refine ld_f hS 0 rfl rfl ?_); (conv => whnf); exact ⟨rfl, rfl⟩) | ((refine ld_f hS 1 rfl rfl ?_); (conv => whnf); exact ⟨rfl, rfl⟩) | ((refine ld_f hS 2 rfl rfl ?_); (conv => whnf); exact ⟨rfl, rfl⟩) | ((refine ld_f hS 3 rfl rfl ?_); (conv => whnf); exact ⟨rfl, rfl⟩) | ((refine ldA_f hS 0 rfl rfl ?_); (conv => whnf); exact ⟨rfl, rfl⟩) | ((refine ldA_f hS 1 rfl rfl ?_); (conv => whnf); exact ⟨rfl, rfl⟩) | ((refine ldA_f hS 2 rfl rfl ?_); (conv => whnf); exact ⟨rfl, rfl⟩) | ((refine ldA_f hS 3 rfl rfl ?_); (conv => whnf); exact ⟨rfl, rfl⟩))) | (refine nw_f hS ?_; intro b w1 hS) | (refine as_i hS ?_) | (refine as_i (hS.subs (List.nil_sublist _) (by repeat (first | exact List.Sublist.refl _ | apply List.Sublist.cons_cons | apply List.Sublist.cons))) ?_) | (refine as_i (hS.subs (List.Sublist.refl _) (by repeat (first | exact List.Sublist.refl _ | apply List.Sublist.cons_cons | apply List.Sublist.cons))) ?_) | (refine bar_f hS ?_) | (refine ld_f hS 0 rfl rfl ?_) | (refine ld_f hS 1 rfl rfl ?_) | (refine ld_f hS 2 rfl rfl ?_) | (refine ld_f hS 3 rfl rfl ?_) | (refine ldA_f hS 0 rfl rfl ?_) | (refine ldA_f hS 1 rfl rfl ?_) | (refine ldA_f hS 2 rfl rfl ?_) | (refine ldA_f hS 3 rfl rfl ?_) | (refine stN_f hS 0 rfl (Nat.le_of_ble_eq_true rfl) rfl rfl ?_; (conv => whnf); intro w1 hS) | (refine stN_f hS 1 rfl (Nat.le_of_ble_eq_true rfl) rfl rfl ?_; (conv => whnf); intro w1 hS) | (refine stN_f hS 2 rfl (Nat.le_of_ble_eq_true rfl) rfl rfl ?_; (conv => whnf); intro w1 hS) | (refine stN_f hS 3 rfl (Nat.le_of_ble_eq_true rfl) rfl rfl ?_; (conv => whnf); intro w1 hS) | (refine stM_f hS 0 rfl (Nat.le_of_ble_eq_true rfl) rfl ?_; (conv => whnf); intro w1 hS) | (refine stM_f hS 1 rfl (Nat.le_of_ble_eq_true rfl) rfl ?_; (conv => whnf); intro w1 hS) | (refine stM_f hS 2 rfl (Nat.le_of_ble_eq_true rfl) rfl ?_; (conv => whnf); intro w1 hS) | (refine stM_f hS 3 rfl (Nat.le_of_ble_eq_true rfl) rfl ?_; (conv => whnf); intro w1 hS) | (refine br_t (by assumption) ?_) | (refine br_f (by assumption) ?_))
    refine fc_m (hputy _ _ _ ⟨hS.rd 0 rfl, fun r hr => el2 hS.nil r (by simp_all)⟩) ?_
    rintro v w6 ⟨rfl, hS'⟩
    replace hS := hS.call0 hS'
    obtain ⟨b0, off, rfl⟩ := (hR1 hS).rd.form (flat_ne encRm_len (by omega) (show 0 < rs1.length by omega))
    have hs0 : ∀ w', MemR w' rs1[0].x rs1[0].h rs1[0].ms → MemR w' x h ms → Fc Tryz.prog 14 [recV rs1[0].x rs1[0].h, recV x h] w' fun v w'' => v = .bool true ∧ St [] w' w'' [] := fun w' p q => by
      have hb := backR_few hzx
      have := sameR_c rs1[0].x x rs1[0].h h rs1[0].ms ms w' p q (by rw [hx0]; have := hb.l; omega) (fun s hs => by rw [hx0] at hs; have := hb.el s hs; omega) (by rw [hx0]; have := hb.v; omega)
      have he : sameR rs1[0].x x = true := by rw [hx0]; exact sameR_iff.2 (back_lk hc.1)
      rw [he] at this
      exact this
    have hs1 : ∀ w', MemR w' rs1[1].x rs1[1].h rs1[1].ms → MemR w' y k ns → Fc Tryz.prog 14 [recV rs1[1].x rs1[1].h, recV y k] w' fun v w'' => v = .bool true ∧ St [] w' w'' [] := fun w' p q => by
      have hb := backR_few hzy
      have := sameR_c rs1[1].x y rs1[1].h k rs1[1].ms ns w' p q (by rw [hy1]; have := hb.l; omega) (fun s hs => by rw [hy1] at hs; have := hb.el s hs; omega) (by rw [hy1]; have := hb.v; omega)
      have he : sameR rs1[1].x y = true := by rw [hy1]; exact sameR_iff.2 (back_lk hc.2)
      rw [he] at this
      exact this
    have gs : (!streq (strY (recT x ++ recT y)) (strY (recT x) ++ strY (recT y))) = false := by rw [strY_append, streq_strY]; simp
    have hpx := recT_pos x
    have hpy := recT_pos y
    have hzx1 := strY_size (recT x)
    have hzy1 := strY_size (recT y)
    have gx : (((strY (recT x)).size : Int) == 0) = false := by rw [beq_eq_false_iff_ne]; omega
    have gy : (((strY (recT y)).size : Int) == 0) = false := by rw [beq_eq_false_iff_ne]; omega
    repeat ((conv => whnf); first | (apply q_i; focus (intro w1 hS; (conv => whnf); first | exact ⟨rfl, rfl⟩ | ((refine ld_f hS 0 rfl rfl ?_); (conv => whnf); exact ⟨rfl, rfl⟩) | ((refine ld_f hS 1 rfl rfl ?_); (conv => whnf); exact ⟨rfl, rfl⟩) | ((refine ld_f hS 2 rfl rfl ?_); (conv => whnf); exact ⟨rfl, rfl⟩) | ((refine ld_f hS 3 rfl rfl ?_); (conv => whnf); exact ⟨rfl, rfl⟩) | ((refine ld_f hS 4 rfl rfl ?_); (conv => whnf); exact ⟨rfl, rfl⟩) | ((refine ldA_f hS 0 rfl rfl ?_); (conv => whnf); exact ⟨rfl, rfl⟩) | ((refine ldA_f hS 1 rfl rfl ?_); (conv => whnf); exact ⟨rfl, rfl⟩) | ((refine ldA_f hS 2 rfl rfl ?_); (conv => whnf); exact ⟨rfl, rfl⟩) | ((refine ldA_f hS 3 rfl rfl ?_); (conv => whnf); exact ⟨rfl, rfl⟩) | ((refine ldA_f hS 4 rfl rfl ?_); (conv => whnf); exact ⟨rfl, rfl⟩))) | (refine nw_f hS ?_; intro b w1 hS) | (refine as_i hS ?_) | (refine as_i (hS.subs (List.nil_sublist _) (by repeat (first | exact List.Sublist.refl _ | apply List.Sublist.cons_cons | apply List.Sublist.cons))) ?_) | (refine as_i (hS.subs (List.Sublist.refl _) (by repeat (first | exact List.Sublist.refl _ | apply List.Sublist.cons_cons | apply List.Sublist.cons))) ?_) | (refine bar_f hS ?_) | (refine ld_f hS 0 rfl rfl ?_) | (refine ld_f hS 1 rfl rfl ?_) | (refine ld_f hS 2 rfl rfl ?_) | (refine ld_f hS 3 rfl rfl ?_) | (refine ld_f hS 4 rfl rfl ?_) | (refine ldA_f hS 0 rfl rfl ?_) | (refine ldA_f hS 1 rfl rfl ?_) | (refine ldA_f hS 2 rfl rfl ?_) | (refine ldA_f hS 3 rfl rfl ?_) | (refine ldA_f hS 4 rfl rfl ?_) | (refine stN_f hS 0 rfl (Nat.le_of_ble_eq_true rfl) rfl rfl ?_; (conv => whnf); intro w1 hS) | (refine stN_f hS 1 rfl (Nat.le_of_ble_eq_true rfl) rfl rfl ?_; (conv => whnf); intro w1 hS) | (refine stN_f hS 2 rfl (Nat.le_of_ble_eq_true rfl) rfl rfl ?_; (conv => whnf); intro w1 hS) | (refine stN_f hS 3 rfl (Nat.le_of_ble_eq_true rfl) rfl rfl ?_; (conv => whnf); intro w1 hS) | (refine stN_f hS 4 rfl (Nat.le_of_ble_eq_true rfl) rfl rfl ?_; (conv => whnf); intro w1 hS) | (refine stM_f hS 0 rfl (Nat.le_of_ble_eq_true rfl) rfl ?_; (conv => whnf); intro w1 hS) | (refine stM_f hS 1 rfl (Nat.le_of_ble_eq_true rfl) rfl ?_; (conv => whnf); intro w1 hS) | (refine stM_f hS 2 rfl (Nat.le_of_ble_eq_true rfl) rfl ?_; (conv => whnf); intro w1 hS) | (refine stM_f hS 3 rfl (Nat.le_of_ble_eq_true rfl) rfl ?_; (conv => whnf); intro w1 hS) | (refine stM_f hS 4 rfl (Nat.le_of_ble_eq_true rfl) rfl ?_; (conv => whnf); intro w1 hS) | (refine br_t (by assumption) ?_) | (refine br_f (by assumption) ?_))
    refine drawf (Ls := [_, _, _, _, _]) TB_ok rfl (by kernel_rfl) (by kernel_rfl) hS (List.Sublist.refl _) (List.Sublist.refl _) ?_; intro w7 hS
    repeat ((conv => whnf); first | (apply q_i; focus (intro w1 hS; (conv => whnf); first | exact ⟨rfl, rfl⟩ | ((refine ld_f hS 0 rfl rfl ?_); (conv => whnf); exact ⟨rfl, rfl⟩) | ((refine ld_f hS 1 rfl rfl ?_); (conv => whnf); exact ⟨rfl, rfl⟩) | ((refine ld_f hS 2 rfl rfl ?_); (conv => whnf); exact ⟨rfl, rfl⟩) | ((refine ld_f hS 3 rfl rfl ?_); (conv => whnf); exact ⟨rfl, rfl⟩) | ((refine ld_f hS 4 rfl rfl ?_); (conv => whnf); exact ⟨rfl, rfl⟩) | ((refine ldA_f hS 0 rfl rfl ?_); (conv => whnf); exact ⟨rfl, rfl⟩) | ((refine ldA_f hS 1 rfl rfl ?_); (conv => whnf); exact ⟨rfl, rfl⟩) | ((refine ldA_f hS 2 rfl rfl ?_); (conv => whnf); exact ⟨rfl, rfl⟩) | ((refine ldA_f hS 3 rfl rfl ?_); (conv => whnf); exact ⟨rfl, rfl⟩) | ((refine ldA_f hS 4 rfl rfl ?_); (conv => whnf); exact ⟨rfl, rfl⟩) | ((refine .mk ⟨by omega, by omega⟩ ?_; refine ix_i rfl ?_); (conv => whnf); exact ⟨rfl, rfl⟩) | ((refine ld_rec (hR1 hS).rd (i := 0) (by omega) rfl rfl ?_); (conv => whnf); exact ⟨rfl, rfl⟩) | ((refine ld_rec (hR1 hS).rd (i := 1) (by omega) rfl rfl ?_); (conv => whnf); exact ⟨rfl, rfl⟩) | ((refine fc_m (hs0 _ ((hR1 hS).el _ (List.getElem_mem _)) (hx.below hS.nil)) ?_; rintro v w3 ⟨rfl, hS'⟩; replace hS := hS.call0 hS'); (conv => whnf); exact ⟨rfl, rfl⟩) | ((refine fc_m (hs1 _ ((hR1 hS).el _ (List.getElem_mem _)) (hy.below hS.nil)) ?_; rintro v w3 ⟨rfl, hS'⟩; replace hS := hS.call0 hS'); (conv => whnf); exact ⟨rfl, rfl⟩) | ((refine .mk (by rw [hzx1, hzy1]; omega) ?_); (conv => whnf); exact ⟨rfl, rfl⟩))) | (refine nw_f hS ?_; intro b w1 hS) | (refine as_i hS ?_) | (refine as_i (hS.subs (List.nil_sublist _) (by repeat (first | exact List.Sublist.refl _ | apply List.Sublist.cons_cons | apply List.Sublist.cons))) ?_) | (refine as_i (hS.subs (List.Sublist.refl _) (by repeat (first | exact List.Sublist.refl _ | apply List.Sublist.cons_cons | apply List.Sublist.cons))) ?_) | (refine bar_f hS ?_) | (refine ld_f hS 0 rfl rfl ?_) | (refine ld_f hS 1 rfl rfl ?_) | (refine ld_f hS 2 rfl rfl ?_) | (refine ld_f hS 3 rfl rfl ?_) | (refine ld_f hS 4 rfl rfl ?_) | (refine ldA_f hS 0 rfl rfl ?_) | (refine ldA_f hS 1 rfl rfl ?_) | (refine ldA_f hS 2 rfl rfl ?_) | (refine ldA_f hS 3 rfl rfl ?_) | (refine ldA_f hS 4 rfl rfl ?_) | (refine stN_f hS 0 rfl (Nat.le_of_ble_eq_true rfl) rfl rfl ?_; (conv => whnf); intro w1 hS) | (refine stN_f hS 1 rfl (Nat.le_of_ble_eq_true rfl) rfl rfl ?_; (conv => whnf); intro w1 hS) | (refine stN_f hS 2 rfl (Nat.le_of_ble_eq_true rfl) rfl rfl ?_; (conv => whnf); intro w1 hS) | (refine stN_f hS 3 rfl (Nat.le_of_ble_eq_true rfl) rfl rfl ?_; (conv => whnf); intro w1 hS) | (refine stN_f hS 4 rfl (Nat.le_of_ble_eq_true rfl) rfl rfl ?_; (conv => whnf); intro w1 hS) | (refine stM_f hS 0 rfl (Nat.le_of_ble_eq_true rfl) rfl ?_; (conv => whnf); intro w1 hS) | (refine stM_f hS 1 rfl (Nat.le_of_ble_eq_true rfl) rfl ?_; (conv => whnf); intro w1 hS) | (refine stM_f hS 2 rfl (Nat.le_of_ble_eq_true rfl) rfl ?_; (conv => whnf); intro w1 hS) | (refine stM_f hS 3 rfl (Nat.le_of_ble_eq_true rfl) rfl ?_; (conv => whnf); intro w1 hS) | (refine stM_f hS 4 rfl (Nat.le_of_ble_eq_true rfl) rfl ?_; (conv => whnf); intro w1 hS) | (refine .mk ⟨by omega, by omega⟩ ?_; refine ix_i rfl ?_) | (refine ld_rec (hR1 hS).rd (i := 0) (by omega) rfl rfl ?_) | (refine ld_rec (hR1 hS).rd (i := 1) (by omega) rfl rfl ?_) | (refine fc_m (hs0 _ ((hR1 hS).el _ (List.getElem_mem _)) (hx.below hS.nil)) ?_; rintro v w3 ⟨rfl, hS'⟩; replace hS := hS.call0 hS') | (refine fc_m (hs1 _ ((hR1 hS).el _ (List.getElem_mem _)) (hy.below hS.nil)) ?_; rintro v w3 ⟨rfl, hS'⟩; replace hS := hS.call0 hS') | (refine .mk (by rw [hzx1, hzy1]; omega) ?_) | (refine br_t (by assumption) ?_) | (refine br_f (by assumption) ?_))
    repeat ((conv => whnf); first | (apply q_i; focus (intro w1 hS; (conv => whnf); first | exact ⟨rfl, rfl⟩ | ((refine ld_f hS 0 rfl rfl ?_); (conv => whnf); exact ⟨rfl, rfl⟩) | ((refine ld_f hS 1 rfl rfl ?_); (conv => whnf); exact ⟨rfl, rfl⟩) | ((refine ldA_f hS 0 rfl rfl ?_); (conv => whnf); exact ⟨rfl, rfl⟩) | ((refine ldA_f hS 1 rfl rfl ?_); (conv => whnf); exact ⟨rfl, rfl⟩))) | (refine nw_f hS ?_; intro b w1 hS) | (refine as_i hS ?_) | (refine as_i (hS.subs (List.nil_sublist _) (by repeat (first | exact List.Sublist.refl _ | apply List.Sublist.cons_cons | apply List.Sublist.cons))) ?_) | (refine as_i (hS.subs (List.Sublist.refl _) (by repeat (first | exact List.Sublist.refl _ | apply List.Sublist.cons_cons | apply List.Sublist.cons))) ?_) | (refine bar_f hS ?_) | (refine ld_f hS 0 rfl rfl ?_) | (refine ld_f hS 1 rfl rfl ?_) | (refine ldA_f hS 0 rfl rfl ?_) | (refine ldA_f hS 1 rfl rfl ?_) | (refine stN_f hS 0 rfl (Nat.le_of_ble_eq_true rfl) rfl rfl ?_; (conv => whnf); intro w1 hS) | (refine stN_f hS 1 rfl (Nat.le_of_ble_eq_true rfl) rfl rfl ?_; (conv => whnf); intro w1 hS) | (refine stM_f hS 0 rfl (Nat.le_of_ble_eq_true rfl) rfl ?_; (conv => whnf); intro w1 hS) | (refine stM_f hS 1 rfl (Nat.le_of_ble_eq_true rfl) rfl ?_; (conv => whnf); intro w1 hS) | (refine br_t (by assumption) ?_) | (refine br_f (by assumption) ?_))
    refine fc_m (take18_c t (by omega) _) ?_
    rintro v w5 ⟨A, c, rs, Lv, rfl, hrs, hK, hS'⟩
    replace hS := hS.callF hS'
    have hRR : ∀ {w' : World} {F L : LM}, Sf [] w w' (Lv ++ F) L → RdR w' A rs := fun h => hK _ (h.st.holds (Ls := Lv) (fun y hy => by simp [hy]))
    have hrl := recs_len hrs
    rcases takeR_got t with ⟨h0, hp⟩ | ⟨h0, hp⟩
    · have g1 : ((takeR t).2 != 0) = false := by rw [h0]; rfl
      obtain ⟨e9, he9⟩ : ∃ e : Int, e = 0 := ⟨0, rfl⟩
      have hput : ∀ w', RdR w' A rs → Fc Tryz.prog 13 [.slice A rs.length c] w' fun v w'' => v = .tuple #[.string (strY t), .int .i64 e9] ∧ St [] w' w'' [] := fun w' hR => by
        have := putR_c A c rs (recs_ok hrs) (by omega) w' hR
        rw [← hrs, hp] at this
        rw [he9]
        exact this
      have g9 : (e9 == 0) = true := by rw [he9]; rfl
      have gt : streq (strY t) (strY t) = true := by rw [streq_strY]; simp
      repeat ((conv => whnf); first | (apply q_i; focus (intro w1 hS; (conv => whnf); first | exact ⟨rfl, rfl⟩ | ((refine ld_f hS 0 rfl rfl ?_); (conv => whnf); exact ⟨rfl, rfl⟩) | ((refine ld_f hS 1 rfl rfl ?_); (conv => whnf); exact ⟨rfl, rfl⟩) | ((refine ldA_f hS 0 rfl rfl ?_); (conv => whnf); exact ⟨rfl, rfl⟩) | ((refine ldA_f hS 1 rfl rfl ?_); (conv => whnf); exact ⟨rfl, rfl⟩) | ((refine fc_m (hput _ (hRR hS)) ?_; rintro v w3 ⟨rfl, hS'⟩; replace hS := hS.call0 hS'); (conv => whnf); exact ⟨rfl, rfl⟩))) | (refine nw_f hS ?_; intro b w1 hS) | (refine as_i hS ?_) | (refine as_i (hS.subs (List.nil_sublist _) (by repeat (first | exact List.Sublist.refl _ | apply List.Sublist.cons_cons | apply List.Sublist.cons))) ?_) | (refine as_i (hS.subs (List.Sublist.refl _) (by repeat (first | exact List.Sublist.refl _ | apply List.Sublist.cons_cons | apply List.Sublist.cons))) ?_) | (refine bar_f hS ?_) | (refine ld_f hS 0 rfl rfl ?_) | (refine ld_f hS 1 rfl rfl ?_) | (refine ldA_f hS 0 rfl rfl ?_) | (refine ldA_f hS 1 rfl rfl ?_) | (refine stN_f hS 0 rfl (Nat.le_of_ble_eq_true rfl) rfl rfl ?_; (conv => whnf); intro w1 hS) | (refine stN_f hS 1 rfl (Nat.le_of_ble_eq_true rfl) rfl rfl ?_; (conv => whnf); intro w1 hS) | (refine stM_f hS 0 rfl (Nat.le_of_ble_eq_true rfl) rfl ?_; (conv => whnf); intro w1 hS) | (refine stM_f hS 1 rfl (Nat.le_of_ble_eq_true rfl) rfl ?_; (conv => whnf); intro w1 hS) | (refine fc_m (hput _ (hRR hS)) ?_; rintro v w3 ⟨rfl, hS'⟩; replace hS := hS.call0 hS') | (refine br_t (by assumption) ?_) | (refine br_f (by assumption) ?_))
      repeat ((conv => whnf); first | (apply q_i; focus (intro w1 hS; (conv => whnf); first | exact ⟨rfl, rfl⟩ | ((refine ld_f hS 0 rfl rfl ?_); (conv => whnf); exact ⟨rfl, rfl⟩) | ((refine ld_f hS 1 rfl rfl ?_); (conv => whnf); exact ⟨rfl, rfl⟩) | ((refine ldA_f hS 0 rfl rfl ?_); (conv => whnf); exact ⟨rfl, rfl⟩) | ((refine ldA_f hS 1 rfl rfl ?_); (conv => whnf); exact ⟨rfl, rfl⟩) | ((refine fc_m (works18_c _) ?_; rintro v w3 ⟨rfl, hS'⟩; replace hS := hS.call0 hS'); (conv => whnf); exact ⟨rfl, rfl⟩))) | (refine nw_f hS ?_; intro b w1 hS) | (refine as_i hS ?_) | (refine as_i (hS.subs (List.nil_sublist _) (by repeat (first | exact List.Sublist.refl _ | apply List.Sublist.cons_cons | apply List.Sublist.cons))) ?_) | (refine as_i (hS.subs (List.Sublist.refl _) (by repeat (first | exact List.Sublist.refl _ | apply List.Sublist.cons_cons | apply List.Sublist.cons))) ?_) | (refine bar_f hS ?_) | (refine ld_f hS 0 rfl rfl ?_) | (refine ld_f hS 1 rfl rfl ?_) | (refine ldA_f hS 0 rfl rfl ?_) | (refine ldA_f hS 1 rfl rfl ?_) | (refine stN_f hS 0 rfl (Nat.le_of_ble_eq_true rfl) rfl rfl ?_; (conv => whnf); intro w1 hS) | (refine stN_f hS 1 rfl (Nat.le_of_ble_eq_true rfl) rfl rfl ?_; (conv => whnf); intro w1 hS) | (refine stM_f hS 0 rfl (Nat.le_of_ble_eq_true rfl) rfl ?_; (conv => whnf); intro w1 hS) | (refine stM_f hS 1 rfl (Nat.le_of_ble_eq_true rfl) rfl ?_; (conv => whnf); intro w1 hS) | (refine fc_m (works18_c _) ?_; rintro v w3 ⟨rfl, hS'⟩; replace hS := hS.call0 hS') | (refine br_t (by assumption) ?_) | (refine br_f (by assumption) ?_))
      exact ⟨rfl, hS.nil⟩
    · have g1 : ((takeR t).2 != 0) = true := by simpa using h0
      have hn : rs.length = 0 := by rw [hp] at hrs; have := congrArg List.length hrs; simpa using this.symm
      have g2 : ((rs.length : Int) == 0) = true := by rw [hn]; rfl
      repeat ((conv => whnf); first | (apply q_i; focus (intro w1 hS; (conv => whnf); first | exact ⟨rfl, rfl⟩ | ((refine ld_f hS 0 rfl rfl ?_); (conv => whnf); exact ⟨rfl, rfl⟩) | ((refine ld_f hS 1 rfl rfl ?_); (conv => whnf); exact ⟨rfl, rfl⟩) | ((refine ldA_f hS 0 rfl rfl ?_); (conv => whnf); exact ⟨rfl, rfl⟩) | ((refine ldA_f hS 1 rfl rfl ?_); (conv => whnf); exact ⟨rfl, rfl⟩) | ((refine fc_m (works18_c _) ?_; rintro v w3 ⟨rfl, hS'⟩; replace hS := hS.call0 hS'); (conv => whnf); exact ⟨rfl, rfl⟩))) | (refine nw_f hS ?_; intro b w1 hS) | (refine as_i hS ?_) | (refine as_i (hS.subs (List.nil_sublist _) (by repeat (first | exact List.Sublist.refl _ | apply List.Sublist.cons_cons | apply List.Sublist.cons))) ?_) | (refine as_i (hS.subs (List.Sublist.refl _) (by repeat (first | exact List.Sublist.refl _ | apply List.Sublist.cons_cons | apply List.Sublist.cons))) ?_) | (refine bar_f hS ?_) | (refine ld_f hS 0 rfl rfl ?_) | (refine ld_f hS 1 rfl rfl ?_) | (refine ldA_f hS 0 rfl rfl ?_) | (refine ldA_f hS 1 rfl rfl ?_) | (refine stN_f hS 0 rfl (Nat.le_of_ble_eq_true rfl) rfl rfl ?_; (conv => whnf); intro w1 hS) | (refine stN_f hS 1 rfl (Nat.le_of_ble_eq_true rfl) rfl rfl ?_; (conv => whnf); intro w1 hS) | (refine stM_f hS 0 rfl (Nat.le_of_ble_eq_true rfl) rfl ?_; (conv => whnf); intro w1 hS) | (refine stM_f hS 1 rfl (Nat.le_of_ble_eq_true rfl) rfl ?_; (conv => whnf); intro w1 hS) | (refine fc_m (works18_c _) ?_; rintro v w3 ⟨rfl, hS'⟩; replace hS := hS.call0 hS') | (refine br_t (by assumption) ?_) | (refine br_f (by assumption) ?_))
      exact ⟨rfl, hS.nil⟩
  · rw [if_neg hc] at hpe
    obtain ⟨e8, he8⟩ : ∃ e : Int, e = 4 := ⟨4, rfl⟩
    have hput : ∀ A c w', RdR w' A [⟨x, h, ms⟩, ⟨y, k, ns⟩] → Fc Tryz.prog 13 [.slice A 2 c] w' fun v w'' => v = .tuple #[.string (strY []), .int .i64 e8] ∧ St [] w' w'' [] := fun A c w' hR => by
      have := putR_c A c [⟨x, h, ms⟩, ⟨y, k, ns⟩] h2 (by simp) w' hR
      rw [hpe] at this
      rw [he8]
      exact this
    have g8 : (e8 == 0) = false := by rw [he8]; rfl
    generalize strY [] = z0 at hput
    refine fc_m (hput _ _ _ ⟨hS.rd 0 rfl, el2 hS.nil⟩) ?_
    rintro v w3 ⟨rfl, hS'⟩
    replace hS := hS.call0 hS'
    have hcx := fun (w' : World) => check18_c x ho hzx.sz h ms w'
    have hcy := fun (w' : World) => check18_c y hoy hzy.sz k ns w'
    obtain ⟨ex, hex⟩ : ∃ e : Int, e = if checkR x = true then 0 else 4 := ⟨_, rfl⟩
    obtain ⟨ey, hey⟩ : ∃ e : Int, e = if checkR y = true then 0 else 4 := ⟨_, rfl⟩
    rw [← hex] at hcx
    rw [← hey] at hcy
    cases hcx1 : checkR x with
    | false =>
      have gx : (ex == 0) = false := by rw [hex, hcx1]; rfl
      repeat ((conv => whnf); first | (apply q_i; focus (intro w1 hS; (conv => whnf); first | exact ⟨rfl, rfl⟩ | ((refine ld_f hS 0 rfl rfl ?_); (conv => whnf); exact ⟨rfl, rfl⟩) | ((refine ld_f hS 1 rfl rfl ?_); (conv => whnf); exact ⟨rfl, rfl⟩) | ((refine ld_f hS 2 rfl rfl ?_); (conv => whnf); exact ⟨rfl, rfl⟩) | ((refine ldA_f hS 0 rfl rfl ?_); (conv => whnf); exact ⟨rfl, rfl⟩) | ((refine ldA_f hS 1 rfl rfl ?_); (conv => whnf); exact ⟨rfl, rfl⟩) | ((refine ldA_f hS 2 rfl rfl ?_); (conv => whnf); exact ⟨rfl, rfl⟩) | ((refine fc_m (hcx _ (hx.below hS.nil)) ?_; rintro v w3 ⟨rfl, hS'⟩; replace hS := hS.call0 hS'); (conv => whnf); exact ⟨rfl, rfl⟩))) | (refine nw_f hS ?_; intro b w1 hS) | (refine as_i hS ?_) | (refine as_i (hS.subs (List.nil_sublist _) (by repeat (first | exact List.Sublist.refl _ | apply List.Sublist.cons_cons | apply List.Sublist.cons))) ?_) | (refine as_i (hS.subs (List.Sublist.refl _) (by repeat (first | exact List.Sublist.refl _ | apply List.Sublist.cons_cons | apply List.Sublist.cons))) ?_) | (refine bar_f hS ?_) | (refine ld_f hS 0 rfl rfl ?_) | (refine ld_f hS 1 rfl rfl ?_) | (refine ld_f hS 2 rfl rfl ?_) | (refine ldA_f hS 0 rfl rfl ?_) | (refine ldA_f hS 1 rfl rfl ?_) | (refine ldA_f hS 2 rfl rfl ?_) | (refine stN_f hS 0 rfl (Nat.le_of_ble_eq_true rfl) rfl rfl ?_; (conv => whnf); intro w1 hS) | (refine stN_f hS 1 rfl (Nat.le_of_ble_eq_true rfl) rfl rfl ?_; (conv => whnf); intro w1 hS) | (refine stN_f hS 2 rfl (Nat.le_of_ble_eq_true rfl) rfl rfl ?_; (conv => whnf); intro w1 hS) | (refine stM_f hS 0 rfl (Nat.le_of_ble_eq_true rfl) rfl ?_; (conv => whnf); intro w1 hS) | (refine stM_f hS 1 rfl (Nat.le_of_ble_eq_true rfl) rfl ?_; (conv => whnf); intro w1 hS) | (refine stM_f hS 2 rfl (Nat.le_of_ble_eq_true rfl) rfl ?_; (conv => whnf); intro w1 hS) | (refine fc_m (hcx _ (hx.below hS.nil)) ?_; rintro v w3 ⟨rfl, hS'⟩; replace hS := hS.call0 hS') | (refine br_t (by assumption) ?_) | (refine br_f (by assumption) ?_))
      repeat ((conv => whnf); first | (apply q_i; focus (intro w1 hS; (conv => whnf); first | exact ⟨rfl, rfl⟩ | ((refine ld_f hS 0 rfl rfl ?_); (conv => whnf); exact ⟨rfl, rfl⟩) | ((refine ld_f hS 1 rfl rfl ?_); (conv => whnf); exact ⟨rfl, rfl⟩) | ((refine ldA_f hS 0 rfl rfl ?_); (conv => whnf); exact ⟨rfl, rfl⟩) | ((refine ldA_f hS 1 rfl rfl ?_); (conv => whnf); exact ⟨rfl, rfl⟩))) | (refine nw_f hS ?_; intro b w1 hS) | (refine as_i hS ?_) | (refine as_i (hS.subs (List.nil_sublist _) (by repeat (first | exact List.Sublist.refl _ | apply List.Sublist.cons_cons | apply List.Sublist.cons))) ?_) | (refine as_i (hS.subs (List.Sublist.refl _) (by repeat (first | exact List.Sublist.refl _ | apply List.Sublist.cons_cons | apply List.Sublist.cons))) ?_) | (refine bar_f hS ?_) | (refine ld_f hS 0 rfl rfl ?_) | (refine ld_f hS 1 rfl rfl ?_) | (refine ldA_f hS 0 rfl rfl ?_) | (refine ldA_f hS 1 rfl rfl ?_) | (refine stN_f hS 0 rfl (Nat.le_of_ble_eq_true rfl) rfl rfl ?_; (conv => whnf); intro w1 hS) | (refine stN_f hS 1 rfl (Nat.le_of_ble_eq_true rfl) rfl rfl ?_; (conv => whnf); intro w1 hS) | (refine stM_f hS 0 rfl (Nat.le_of_ble_eq_true rfl) rfl ?_; (conv => whnf); intro w1 hS) | (refine stM_f hS 1 rfl (Nat.le_of_ble_eq_true rfl) rfl ?_; (conv => whnf); intro w1 hS) | (refine br_t (by assumption) ?_) | (refine br_f (by assumption) ?_))
      refine fc_m (take18_c t (by omega) _) ?_
      rintro v w5 ⟨A, c, rs, Lv, rfl, hrs, hK, hS'⟩
      replace hS := hS.callF hS'
      have hRR : ∀ {w' : World} {F L : LM}, Sf [] w w' (Lv ++ F) L → RdR w' A rs := fun h => hK _ (h.st.holds (Ls := Lv) (fun y hy => by simp [hy]))
      have hrl := recs_len hrs
      rcases takeR_got t with ⟨h0, hp⟩ | ⟨h0, hp⟩
      · have g1 : ((takeR t).2 != 0) = false := by rw [h0]; rfl
        obtain ⟨e9, he9⟩ : ∃ e : Int, e = 0 := ⟨0, rfl⟩
        have hput : ∀ w', RdR w' A rs → Fc Tryz.prog 13 [.slice A rs.length c] w' fun v w'' => v = .tuple #[.string (strY t), .int .i64 e9] ∧ St [] w' w'' [] := fun w' hR => by
          have := putR_c A c rs (recs_ok hrs) (by omega) w' hR
          rw [← hrs, hp] at this
          rw [he9]
          exact this
        have g9 : (e9 == 0) = true := by rw [he9]; rfl
        have gt : streq (strY t) (strY t) = true := by rw [streq_strY]; simp
        repeat ((conv => whnf); first | (apply q_i; focus (intro w1 hS; (conv => whnf); first | exact ⟨rfl, rfl⟩ | ((refine ld_f hS 0 rfl rfl ?_); (conv => whnf); exact ⟨rfl, rfl⟩) | ((refine ld_f hS 1 rfl rfl ?_); (conv => whnf); exact ⟨rfl, rfl⟩) | ((refine ldA_f hS 0 rfl rfl ?_); (conv => whnf); exact ⟨rfl, rfl⟩) | ((refine ldA_f hS 1 rfl rfl ?_); (conv => whnf); exact ⟨rfl, rfl⟩) | ((refine fc_m (hput _ (hRR hS)) ?_; rintro v w3 ⟨rfl, hS'⟩; replace hS := hS.call0 hS'); (conv => whnf); exact ⟨rfl, rfl⟩))) | (refine nw_f hS ?_; intro b w1 hS) | (refine as_i hS ?_) | (refine as_i (hS.subs (List.nil_sublist _) (by repeat (first | exact List.Sublist.refl _ | apply List.Sublist.cons_cons | apply List.Sublist.cons))) ?_) | (refine as_i (hS.subs (List.Sublist.refl _) (by repeat (first | exact List.Sublist.refl _ | apply List.Sublist.cons_cons | apply List.Sublist.cons))) ?_) | (refine bar_f hS ?_) | (refine ld_f hS 0 rfl rfl ?_) | (refine ld_f hS 1 rfl rfl ?_) | (refine ldA_f hS 0 rfl rfl ?_) | (refine ldA_f hS 1 rfl rfl ?_) | (refine stN_f hS 0 rfl (Nat.le_of_ble_eq_true rfl) rfl rfl ?_; (conv => whnf); intro w1 hS) | (refine stN_f hS 1 rfl (Nat.le_of_ble_eq_true rfl) rfl rfl ?_; (conv => whnf); intro w1 hS) | (refine stM_f hS 0 rfl (Nat.le_of_ble_eq_true rfl) rfl ?_; (conv => whnf); intro w1 hS) | (refine stM_f hS 1 rfl (Nat.le_of_ble_eq_true rfl) rfl ?_; (conv => whnf); intro w1 hS) | (refine fc_m (hput _ (hRR hS)) ?_; rintro v w3 ⟨rfl, hS'⟩; replace hS := hS.call0 hS') | (refine br_t (by assumption) ?_) | (refine br_f (by assumption) ?_))
        repeat ((conv => whnf); first | (apply q_i; focus (intro w1 hS; (conv => whnf); first | exact ⟨rfl, rfl⟩ | ((refine ld_f hS 0 rfl rfl ?_); (conv => whnf); exact ⟨rfl, rfl⟩) | ((refine ld_f hS 1 rfl rfl ?_); (conv => whnf); exact ⟨rfl, rfl⟩) | ((refine ldA_f hS 0 rfl rfl ?_); (conv => whnf); exact ⟨rfl, rfl⟩) | ((refine ldA_f hS 1 rfl rfl ?_); (conv => whnf); exact ⟨rfl, rfl⟩) | ((refine fc_m (works18_c _) ?_; rintro v w3 ⟨rfl, hS'⟩; replace hS := hS.call0 hS'); (conv => whnf); exact ⟨rfl, rfl⟩))) | (refine nw_f hS ?_; intro b w1 hS) | (refine as_i hS ?_) | (refine as_i (hS.subs (List.nil_sublist _) (by repeat (first | exact List.Sublist.refl _ | apply List.Sublist.cons_cons | apply List.Sublist.cons))) ?_) | (refine as_i (hS.subs (List.Sublist.refl _) (by repeat (first | exact List.Sublist.refl _ | apply List.Sublist.cons_cons | apply List.Sublist.cons))) ?_) | (refine bar_f hS ?_) | (refine ld_f hS 0 rfl rfl ?_) | (refine ld_f hS 1 rfl rfl ?_) | (refine ldA_f hS 0 rfl rfl ?_) | (refine ldA_f hS 1 rfl rfl ?_) | (refine stN_f hS 0 rfl (Nat.le_of_ble_eq_true rfl) rfl rfl ?_; (conv => whnf); intro w1 hS) | (refine stN_f hS 1 rfl (Nat.le_of_ble_eq_true rfl) rfl rfl ?_; (conv => whnf); intro w1 hS) | (refine stM_f hS 0 rfl (Nat.le_of_ble_eq_true rfl) rfl ?_; (conv => whnf); intro w1 hS) | (refine stM_f hS 1 rfl (Nat.le_of_ble_eq_true rfl) rfl ?_; (conv => whnf); intro w1 hS) | (refine fc_m (works18_c _) ?_; rintro v w3 ⟨rfl, hS'⟩; replace hS := hS.call0 hS') | (refine br_t (by assumption) ?_) | (refine br_f (by assumption) ?_))
        exact ⟨rfl, hS.nil⟩
      · have g1 : ((takeR t).2 != 0) = true := by simpa using h0
        have hn : rs.length = 0 := by rw [hp] at hrs; have := congrArg List.length hrs; simpa using this.symm
        have g2 : ((rs.length : Int) == 0) = true := by rw [hn]; rfl
        repeat ((conv => whnf); first | (apply q_i; focus (intro w1 hS; (conv => whnf); first | exact ⟨rfl, rfl⟩ | ((refine ld_f hS 0 rfl rfl ?_); (conv => whnf); exact ⟨rfl, rfl⟩) | ((refine ld_f hS 1 rfl rfl ?_); (conv => whnf); exact ⟨rfl, rfl⟩) | ((refine ldA_f hS 0 rfl rfl ?_); (conv => whnf); exact ⟨rfl, rfl⟩) | ((refine ldA_f hS 1 rfl rfl ?_); (conv => whnf); exact ⟨rfl, rfl⟩) | ((refine fc_m (works18_c _) ?_; rintro v w3 ⟨rfl, hS'⟩; replace hS := hS.call0 hS'); (conv => whnf); exact ⟨rfl, rfl⟩))) | (refine nw_f hS ?_; intro b w1 hS) | (refine as_i hS ?_) | (refine as_i (hS.subs (List.nil_sublist _) (by repeat (first | exact List.Sublist.refl _ | apply List.Sublist.cons_cons | apply List.Sublist.cons))) ?_) | (refine as_i (hS.subs (List.Sublist.refl _) (by repeat (first | exact List.Sublist.refl _ | apply List.Sublist.cons_cons | apply List.Sublist.cons))) ?_) | (refine bar_f hS ?_) | (refine ld_f hS 0 rfl rfl ?_) | (refine ld_f hS 1 rfl rfl ?_) | (refine ldA_f hS 0 rfl rfl ?_) | (refine ldA_f hS 1 rfl rfl ?_) | (refine stN_f hS 0 rfl (Nat.le_of_ble_eq_true rfl) rfl rfl ?_; (conv => whnf); intro w1 hS) | (refine stN_f hS 1 rfl (Nat.le_of_ble_eq_true rfl) rfl rfl ?_; (conv => whnf); intro w1 hS) | (refine stM_f hS 0 rfl (Nat.le_of_ble_eq_true rfl) rfl ?_; (conv => whnf); intro w1 hS) | (refine stM_f hS 1 rfl (Nat.le_of_ble_eq_true rfl) rfl ?_; (conv => whnf); intro w1 hS) | (refine fc_m (works18_c _) ?_; rintro v w3 ⟨rfl, hS'⟩; replace hS := hS.call0 hS') | (refine br_t (by assumption) ?_) | (refine br_f (by assumption) ?_))
        exact ⟨rfl, hS.nil⟩
    | true =>
      have gx : (ex == 0) = true := by rw [hex, hcx1]; rfl
      have gy : (ey == 0) = false := by
        have : ¬ checkR y = true := fun h => hc ⟨hcx1, h⟩
        rw [hey, if_neg this]; rfl
      repeat ((conv => whnf); first | (apply q_i; focus (intro w1 hS; (conv => whnf); first | exact ⟨rfl, rfl⟩ | ((refine ld_f hS 0 rfl rfl ?_); (conv => whnf); exact ⟨rfl, rfl⟩) | ((refine ld_f hS 1 rfl rfl ?_); (conv => whnf); exact ⟨rfl, rfl⟩) | ((refine ld_f hS 2 rfl rfl ?_); (conv => whnf); exact ⟨rfl, rfl⟩) | ((refine ldA_f hS 0 rfl rfl ?_); (conv => whnf); exact ⟨rfl, rfl⟩) | ((refine ldA_f hS 1 rfl rfl ?_); (conv => whnf); exact ⟨rfl, rfl⟩) | ((refine ldA_f hS 2 rfl rfl ?_); (conv => whnf); exact ⟨rfl, rfl⟩) | ((refine fc_m (hcx _ (hx.below hS.nil)) ?_; rintro v w3 ⟨rfl, hS'⟩; replace hS := hS.call0 hS'); (conv => whnf); exact ⟨rfl, rfl⟩) | ((refine fc_m (hcy _ (hy.below hS.nil)) ?_; rintro v w3 ⟨rfl, hS'⟩; replace hS := hS.call0 hS'); (conv => whnf); exact ⟨rfl, rfl⟩))) | (refine nw_f hS ?_; intro b w1 hS) | (refine as_i hS ?_) | (refine as_i (hS.subs (List.nil_sublist _) (by repeat (first | exact List.Sublist.refl _ | apply List.Sublist.cons_cons | apply List.Sublist.cons))) ?_) | (refine as_i (hS.subs (List.Sublist.refl _) (by repeat (first | exact List.Sublist.refl _ | apply List.Sublist.cons_cons | apply List.Sublist.cons))) ?_) | (refine bar_f hS ?_) | (refine ld_f hS 0 rfl rfl ?_) | (refine ld_f hS 1 rfl rfl ?_) | (refine ld_f hS 2 rfl rfl ?_) | (refine ldA_f hS 0 rfl rfl ?_) | (refine ldA_f hS 1 rfl rfl ?_) | (refine ldA_f hS 2 rfl rfl ?_) | (refine stN_f hS 0 rfl (Nat.le_of_ble_eq_true rfl) rfl rfl ?_; (conv => whnf); intro w1 hS) | (refine stN_f hS 1 rfl (Nat.le_of_ble_eq_true rfl) rfl rfl ?_; (conv => whnf); intro w1 hS) | (refine stN_f hS 2 rfl (Nat.le_of_ble_eq_true rfl) rfl rfl ?_; (conv => whnf); intro w1 hS) | (refine stM_f hS 0 rfl (Nat.le_of_ble_eq_true rfl) rfl ?_; (conv => whnf); intro w1 hS) | (refine stM_f hS 1 rfl (Nat.le_of_ble_eq_true rfl) rfl ?_; (conv => whnf); intro w1 hS) | (refine stM_f hS 2 rfl (Nat.le_of_ble_eq_true rfl) rfl ?_; (conv => whnf); intro w1 hS) | (refine fc_m (hcx _ (hx.below hS.nil)) ?_; rintro v w3 ⟨rfl, hS'⟩; replace hS := hS.call0 hS') | (refine fc_m (hcy _ (hy.below hS.nil)) ?_; rintro v w3 ⟨rfl, hS'⟩; replace hS := hS.call0 hS') | (refine br_t (by assumption) ?_) | (refine br_f (by assumption) ?_))
      repeat ((conv => whnf); first | (apply q_i; focus (intro w1 hS; (conv => whnf); first | exact ⟨rfl, rfl⟩ | ((refine ld_f hS 0 rfl rfl ?_); (conv => whnf); exact ⟨rfl, rfl⟩) | ((refine ld_f hS 1 rfl rfl ?_); (conv => whnf); exact ⟨rfl, rfl⟩) | ((refine ldA_f hS 0 rfl rfl ?_); (conv => whnf); exact ⟨rfl, rfl⟩) | ((refine ldA_f hS 1 rfl rfl ?_); (conv => whnf); exact ⟨rfl, rfl⟩))) | (refine nw_f hS ?_; intro b w1 hS) | (refine as_i hS ?_) | (refine as_i (hS.subs (List.nil_sublist _) (by repeat (first | exact List.Sublist.refl _ | apply List.Sublist.cons_cons | apply List.Sublist.cons))) ?_) | (refine as_i (hS.subs (List.Sublist.refl _) (by repeat (first | exact List.Sublist.refl _ | apply List.Sublist.cons_cons | apply List.Sublist.cons))) ?_) | (refine bar_f hS ?_) | (refine ld_f hS 0 rfl rfl ?_) | (refine ld_f hS 1 rfl rfl ?_) | (refine ldA_f hS 0 rfl rfl ?_) | (refine ldA_f hS 1 rfl rfl ?_) | (refine stN_f hS 0 rfl (Nat.le_of_ble_eq_true rfl) rfl rfl ?_; (conv => whnf); intro w1 hS) | (refine stN_f hS 1 rfl (Nat.le_of_ble_eq_true rfl) rfl rfl ?_; (conv => whnf); intro w1 hS) | (refine stM_f hS 0 rfl (Nat.le_of_ble_eq_true rfl) rfl ?_; (conv => whnf); intro w1 hS) | (refine stM_f hS 1 rfl (Nat.le_of_ble_eq_true rfl) rfl ?_; (conv => whnf); intro w1 hS) | (refine br_t (by assumption) ?_) | (refine br_f (by assumption) ?_))
      refine fc_m (take18_c t (by omega) _) ?_
      rintro v w5 ⟨A, c, rs, Lv, rfl, hrs, hK, hS'⟩
      replace hS := hS.callF hS'
      have hRR : ∀ {w' : World} {F L : LM}, Sf [] w w' (Lv ++ F) L → RdR w' A rs := fun h => hK _ (h.st.holds (Ls := Lv) (fun y hy => by simp [hy]))
      have hrl := recs_len hrs
      rcases takeR_got t with ⟨h0, hp⟩ | ⟨h0, hp⟩
      · have g1 : ((takeR t).2 != 0) = false := by rw [h0]; rfl
        obtain ⟨e9, he9⟩ : ∃ e : Int, e = 0 := ⟨0, rfl⟩
        have hput : ∀ w', RdR w' A rs → Fc Tryz.prog 13 [.slice A rs.length c] w' fun v w'' => v = .tuple #[.string (strY t), .int .i64 e9] ∧ St [] w' w'' [] := fun w' hR => by
          have := putR_c A c rs (recs_ok hrs) (by omega) w' hR
          rw [← hrs, hp] at this
          rw [he9]
          exact this
        have g9 : (e9 == 0) = true := by rw [he9]; rfl
        have gt : streq (strY t) (strY t) = true := by rw [streq_strY]; simp
        repeat ((conv => whnf); first | (apply q_i; focus (intro w1 hS; (conv => whnf); first | exact ⟨rfl, rfl⟩ | ((refine ld_f hS 0 rfl rfl ?_); (conv => whnf); exact ⟨rfl, rfl⟩) | ((refine ld_f hS 1 rfl rfl ?_); (conv => whnf); exact ⟨rfl, rfl⟩) | ((refine ldA_f hS 0 rfl rfl ?_); (conv => whnf); exact ⟨rfl, rfl⟩) | ((refine ldA_f hS 1 rfl rfl ?_); (conv => whnf); exact ⟨rfl, rfl⟩) | ((refine fc_m (hput _ (hRR hS)) ?_; rintro v w3 ⟨rfl, hS'⟩; replace hS := hS.call0 hS'); (conv => whnf); exact ⟨rfl, rfl⟩))) | (refine nw_f hS ?_; intro b w1 hS) | (refine as_i hS ?_) | (refine as_i (hS.subs (List.nil_sublist _) (by repeat (first | exact List.Sublist.refl _ | apply List.Sublist.cons_cons | apply List.Sublist.cons))) ?_) | (refine as_i (hS.subs (List.Sublist.refl _) (by repeat (first | exact List.Sublist.refl _ | apply List.Sublist.cons_cons | apply List.Sublist.cons))) ?_) | (refine bar_f hS ?_) | (refine ld_f hS 0 rfl rfl ?_) | (refine ld_f hS 1 rfl rfl ?_) | (refine ldA_f hS 0 rfl rfl ?_) | (refine ldA_f hS 1 rfl rfl ?_) | (refine stN_f hS 0 rfl (Nat.le_of_ble_eq_true rfl) rfl rfl ?_; (conv => whnf); intro w1 hS) | (refine stN_f hS 1 rfl (Nat.le_of_ble_eq_true rfl) rfl rfl ?_; (conv => whnf); intro w1 hS) | (refine stM_f hS 0 rfl (Nat.le_of_ble_eq_true rfl) rfl ?_; (conv => whnf); intro w1 hS) | (refine stM_f hS 1 rfl (Nat.le_of_ble_eq_true rfl) rfl ?_; (conv => whnf); intro w1 hS) | (refine fc_m (hput _ (hRR hS)) ?_; rintro v w3 ⟨rfl, hS'⟩; replace hS := hS.call0 hS') | (refine br_t (by assumption) ?_) | (refine br_f (by assumption) ?_))
        repeat ((conv => whnf); first | (apply q_i; focus (intro w1 hS; (conv => whnf); first | exact ⟨rfl, rfl⟩ | ((refine ld_f hS 0 rfl rfl ?_); (conv => whnf); exact ⟨rfl, rfl⟩) | ((refine ld_f hS 1 rfl rfl ?_); (conv => whnf); exact ⟨rfl, rfl⟩) | ((refine ldA_f hS 0 rfl rfl ?_); (conv => whnf); exact ⟨rfl, rfl⟩) | ((refine ldA_f hS 1 rfl rfl ?_); (conv => whnf); exact ⟨rfl, rfl⟩) | ((refine fc_m (works18_c _) ?_; rintro v w3 ⟨rfl, hS'⟩; replace hS := hS.call0 hS'); (conv => whnf); exact ⟨rfl, rfl⟩))) | (refine nw_f hS ?_; intro b w1 hS) | (refine as_i hS ?_) | (refine as_i (hS.subs (List.nil_sublist _) (by repeat (first | exact List.Sublist.refl _ | apply List.Sublist.cons_cons | apply List.Sublist.cons))) ?_) | (refine as_i (hS.subs (List.Sublist.refl _) (by repeat (first | exact List.Sublist.refl _ | apply List.Sublist.cons_cons | apply List.Sublist.cons))) ?_) | (refine bar_f hS ?_) | (refine ld_f hS 0 rfl rfl ?_) | (refine ld_f hS 1 rfl rfl ?_) | (refine ldA_f hS 0 rfl rfl ?_) | (refine ldA_f hS 1 rfl rfl ?_) | (refine stN_f hS 0 rfl (Nat.le_of_ble_eq_true rfl) rfl rfl ?_; (conv => whnf); intro w1 hS) | (refine stN_f hS 1 rfl (Nat.le_of_ble_eq_true rfl) rfl rfl ?_; (conv => whnf); intro w1 hS) | (refine stM_f hS 0 rfl (Nat.le_of_ble_eq_true rfl) rfl ?_; (conv => whnf); intro w1 hS) | (refine stM_f hS 1 rfl (Nat.le_of_ble_eq_true rfl) rfl ?_; (conv => whnf); intro w1 hS) | (refine fc_m (works18_c _) ?_; rintro v w3 ⟨rfl, hS'⟩; replace hS := hS.call0 hS') | (refine br_t (by assumption) ?_) | (refine br_f (by assumption) ?_))
        exact ⟨rfl, hS.nil⟩
      · have g1 : ((takeR t).2 != 0) = true := by simpa using h0
        have hn : rs.length = 0 := by rw [hp] at hrs; have := congrArg List.length hrs; simpa using this.symm
        have g2 : ((rs.length : Int) == 0) = true := by rw [hn]; rfl
        repeat ((conv => whnf); first | (apply q_i; focus (intro w1 hS; (conv => whnf); first | exact ⟨rfl, rfl⟩ | ((refine ld_f hS 0 rfl rfl ?_); (conv => whnf); exact ⟨rfl, rfl⟩) | ((refine ld_f hS 1 rfl rfl ?_); (conv => whnf); exact ⟨rfl, rfl⟩) | ((refine ldA_f hS 0 rfl rfl ?_); (conv => whnf); exact ⟨rfl, rfl⟩) | ((refine ldA_f hS 1 rfl rfl ?_); (conv => whnf); exact ⟨rfl, rfl⟩) | ((refine fc_m (works18_c _) ?_; rintro v w3 ⟨rfl, hS'⟩; replace hS := hS.call0 hS'); (conv => whnf); exact ⟨rfl, rfl⟩))) | (refine nw_f hS ?_; intro b w1 hS) | (refine as_i hS ?_) | (refine as_i (hS.subs (List.nil_sublist _) (by repeat (first | exact List.Sublist.refl _ | apply List.Sublist.cons_cons | apply List.Sublist.cons))) ?_) | (refine as_i (hS.subs (List.Sublist.refl _) (by repeat (first | exact List.Sublist.refl _ | apply List.Sublist.cons_cons | apply List.Sublist.cons))) ?_) | (refine bar_f hS ?_) | (refine ld_f hS 0 rfl rfl ?_) | (refine ld_f hS 1 rfl rfl ?_) | (refine ldA_f hS 0 rfl rfl ?_) | (refine ldA_f hS 1 rfl rfl ?_) | (refine stN_f hS 0 rfl (Nat.le_of_ble_eq_true rfl) rfl rfl ?_; (conv => whnf); intro w1 hS) | (refine stN_f hS 1 rfl (Nat.le_of_ble_eq_true rfl) rfl rfl ?_; (conv => whnf); intro w1 hS) | (refine stM_f hS 0 rfl (Nat.le_of_ble_eq_true rfl) rfl ?_; (conv => whnf); intro w1 hS) | (refine stM_f hS 1 rfl (Nat.le_of_ble_eq_true rfl) rfl ?_; (conv => whnf); intro w1 hS) | (refine fc_m (works18_c _) ?_; rintro v w3 ⟨rfl, hS'⟩; replace hS := hS.call0 hS') | (refine br_t (by assumption) ?_) | (refine br_f (by assumption) ?_))
        exact ⟨rfl, hS.nil⟩
end Go.RV

set_option linter.unusedVariables false
set_option maxRecDepth 20000
namespace Go.RV
open Go Go.Proofs Go.ChangeShapes Go.WideShapes Go.RowKit
theorem strY_dr (s : ByteArray) : strY s.data.toList = s := by cases s; simp [strY]
theorem wfr {k : IntKind} {n : Int} (h : (Lit.int k n).wf = true) : k.min ≤ n ∧ n ≤ k.max := by
  have h1 : (decide (k.min ≤ n) && decide (n ≤ k.max)) = true := h
  simp only [Bool.and_eq_true, decide_eq_true_eq] at h1
  exact h1
theorem cells5r {cs : List Value} (h : cs.length = 5) : ∃ a b c d e, cs = [a, b, c, d, e] := by
  match cs, h with
  | [a, b, c, d, e], _ => exact ⟨a, b, c, d, e, rfl⟩
theorem cells36 {cs : List Value} (h : cs.length = 36) : ∃ a0 a1 a2 a3 a4 a5 a6 a7 a8 f0 f1 f2 f3 f4 f5 f6 f7 l b0 b1 b2 b3 b4 b5 g0 g1 g2 g3 g4 g5 g6 g7 c0 c1 c2 c3,
    cs = [a0, a1, a2, a3, a4, a5, a6, a7, a8, f0, f1, f2, f3, f4, f5, f6, f7, l, b0, b1, b2, b3, b4, b5, g0, g1, g2, g3, g4, g5, g6, g7, c0, c1, c2, c3] := by
  match cs, h with
  | a0 :: a1 :: a2 :: a3 :: a4 :: a5 :: a6 :: a7 :: a8 :: f0 :: f1 :: f2 :: f3 :: f4 :: f5 :: f6 :: f7 :: l :: b0 :: b1 :: b2 :: b3 :: b4 :: b5 :: g0 :: g1 :: g2 :: g3 :: g4 :: g5 :: g6 :: g7 :: c0 :: c1 :: c2 :: c3 :: [], _ =>
    exact ⟨a0, a1, a2, a3, a4, a5, a6, a7, a8, f0, f1, f2, f3, f4, f5, f6, f7, l, b0, b1, b2, b3, b4, b5, g0, g1, g2, g3, g4, g5, g6, g7, c0, c1, c2, c3, rfl⟩
def vec8r (a b c d e f g h : Int) : Nat → Int
  | 0 => a
  | 1 => b
  | 2 => c
  | 3 => d
  | 4 => e
  | 5 => f
  | 6 => g
  | 7 => h
  | _ => 0
theorem vec8r_ok {a b c d e f g h : Int} (ha : 0 ≤ a ∧ a ≤ 4294967295) (hb : 0 ≤ b ∧ b ≤ 4294967295) (hc : 0 ≤ c ∧ c ≤ 4294967295) (hd : 0 ≤ d ∧ d ≤ 4294967295) (he : 0 ≤ e ∧ e ≤ 4294967295) (hf : 0 ≤ f ∧ f ≤ 4294967295) (hg : 0 ≤ g ∧ g ≤ 4294967295) (hh : 0 ≤ h ∧ h ≤ 4294967295) :
    ∀ j, j < 8 → 0 ≤ vec8r a b c d e f g h j ∧ vec8r a b c d e f g h j ≤ 4294967295 := fun j hj => by
  rcases lt8 hj with rfl | rfl | rfl | rfl | rfl | rfl | rfl | rfl
  · exact ha
  · exact hb
  · exact hc
  · exact hd
  · exact he
  · exact hf
  · exact hg
  · exact hh
instance : Inhabited Sm := ⟨⟨⟨0, 0, zeroVa⟩, none, 0⟩⟩
section
variable {W w : World} {r : Reach} {b0 : Nat} {v : Value}
theorem open_strr (h : Value.okWide Tryz.prog w r b0 9 v) : ∃ s : List UInt8, v = .string (strY s) ∧ (s.length : Int) ≤ 9223372036854775807 := by
  simp only [Value.okWide, Tryz.underlying9] at h
  obtain ⟨s, rfl, hn⟩ := cell_string Tryz.underlying9 h
  have hm : IntKind.i64.max = 9223372036854775807 := by decide
  refine ⟨s.data.toList, by rw [strY_dr], ?_⟩
  rw [hm] at hn
  simpa using hn
variable {H : Type} {en : TypeId × Value → H} {base : Nat} {spare : Nat → Bool} {held : Bool} {d : DataW H} {ps : List MemPlace}
/-- numbers in memory, wherever the slice itself lies -/
theorem open_nums {n : Nat} {cs : List Value} {x : DataW H × List MemPlace} (h : DataW.trod en Tryz.prog w base spare held n 41 cs = some x) :
    ∃ (A : Option Addr) (c : Nat) (ks : List Int), cs = [.slice A ks.length c] ∧ ks.length ≤ c ∧ c ≤ maxLen ∧ Rd w A (flat encU ks) ∧ (∀ k ∈ ks, 0 ≤ k ∧ k ≤ 4294967295) := by
  rcases Go.Deep.open_slice1 Tryz.underlying41 (by kernel_rfl) h with ⟨rfl, _⟩ | ⟨a, len, cap, m, n', V, D, Pl, rfl, hb, hl, hm, hmm, _, hx⟩
  · exact ⟨none, 0, [], rfl, Nat.le_refl _, Nat.zero_le _, .inl rfl, by simp⟩
  · have hlm : len ≤ m := by rw [hmm]; split <;> omega
    have each : ∀ i, i < len → ∃ k : Int, V i = .int .u32 k ∧ 0 ≤ k ∧ k ≤ 4294967295 := fun i hi => by
      obtain ⟨i, e0, _, hi⟩ := DataW.trod_int Tryz.underlying32 (hx i (by omega)).2
      exact ⟨i, by simpa using e0, wfr hi⟩
    obtain ⟨q, hq⟩ := Go.Deep.choose_lt each
    refine ⟨some a, cap, (List.range len).map q, by simp, by simpa using hl, hm, ?_, ?_⟩
    · rcases Nat.eq_zero_or_pos len with rfl | hp
      · exact .inl rfl
      · obtain ⟨ab, ao, sp⟩ := a
        have hspot : sp = none := by simpa [Addr.add] using World.cell?_spot (hx 0 (by omega)).1
        subst hspot
        refine .inr ⟨ab, ao, rfl, fun j v hj => ?_⟩
        have hjl : j < len := by
          have := (List.getElem?_eq_some_iff.1 hj).1
          rw [flat_length encU_len] at this
          simpa using this
        have e := flat_get encU_len ((List.range len).map q) j (by simpa using hjl) 0 (by decide)
        rw [Nat.mul_one, Nat.add_zero] at e
        rw [e] at hj
        have h1 := (hx j (by omega)).1
        rw [(hq j hjl).1, add_none] at h1
        rw [h1]
        simpa [encU] using hj
    · intro k hk
      obtain ⟨i, hi, rfl⟩ := List.mem_map.1 hk
      exact (hq i (by simpa using hi)).2
theorem open_sibsM (hv : Value.okWide Tryz.prog w r b0 38 v) (h : DataW.Trod en Tryz.prog w base spare held 38 v d ps) :
    ∃ (A : Option Addr) (c : Nat) (ms : List Sm), v = .slice A ms.length c ∧ ms.length ≤ c ∧ c ≤ maxLen ∧ Rd w A (flat encM ms) ∧ (∀ m ∈ ms, okSv m.s ∧ Rd w m.A (flat encU m.s.v.ks)) ∧ (A = none → c = 0) := by
  refine open_list Tryz.underlying38 (sz := 5) (by kernel_rfl) (by decide) encM_len ?_ hv h
  intro n cs x hx
  obtain ⟨y0, y1, m, _, hl, h0, h1⟩ := trod_struct2 Tryz.underlying94 hx
  have hl5 : cs.length = 5 := hl.trans (by kernel_rfl)
  obtain ⟨p, q, s, u, o, rfl⟩ := cells5r hl5
  have c1 : Tryz.prog.cellsOf 92 = 2 := by kernel_rfl
  have c3 : Tryz.prog.cellsOf 5 = 1 := by kernel_rfl
  have c4 : Tryz.prog.cellsOf 32 = 1 := by kernel_rfl
  have c5 : Tryz.prog.cellsOf 43 = 3 := by kernel_rfl
  have c6 : Tryz.prog.cellsOf 4 = 1 := by kernel_rfl
  have c7 : Tryz.prog.cellsOf 3 = 1 := by kernel_rfl
  have c8 : Tryz.prog.cellsOf 41 = 1 := by kernel_rfl
  simp [c1] at h0
  simp [c5] at h1
  obtain ⟨z0, z1, m2, _, _, g0, g1⟩ := trod_struct2 Tryz.underlying92 h0
  simp [c3] at g0
  simp [c4] at g1
  obtain ⟨u0, u1, u2, m3, _, _, k0, k1, k2⟩ := Go.Deep.trod_struct3 Tryz.underlying43 h1
  simp [c6] at k0
  simp [c7] at k1
  simp [c8] at k2
  obtain ⟨i, e0, _, hi⟩ := DataW.trod_int Tryz.underlying5 g0
  obtain ⟨k, e1, _, hk⟩ := DataW.trod_int Tryz.underlying32 g1
  obtain ⟨bb, e2, _⟩ := DataW.trod_bool Tryz.underlying4 k0
  obtain ⟨j, e3, _, hj⟩ := DataW.trod_int Tryz.underlying3 k1
  obtain ⟨A, c, ks, e4, _, _, hR, hks⟩ := open_nums k2
  cases e0; cases e1; cases e2; cases e3; cases e4
  exact ⟨⟨⟨i, k, bb, j, ks⟩, A, c⟩, rfl, ⟨wfr hi, wfr hk, wfr hj, hks⟩, hR⟩
end
end Go.RV


set_option linter.unusedVariables false
set_option maxRecDepth 20000
namespace Go.RV
open Go Go.Proofs Go.ChangeShapes Go.WideShapes Go.RowKit
section
variable {W w : World} {r : Reach} {b0 : Nat} {v : Value}
variable {H : Type} {en : TypeId × Value → H} {base : Nat} {spare : Nat → Bool} {held : Bool} {d : DataW H} {ps : List MemPlace}
theorem open_rec (hv : Value.okWide Tryz.prog w r b0 49 v) (h : DataW.Trod en Tryz.prog w base spare held 49 v d ps) :
    ∃ (x : Rx) (h : Hd) (ms : List Sm), v = recV x h ∧ okR x ∧ x.xs.length ≤ 9223372036854775807 ∧ MemR w x h ms := by
  obtain ⟨cs, rfl, hl, hc⟩ := okWide_cells (.inl ⟨_, Tryz.underlying49⟩) (ts := [5, 5, 32, 32, 32, 5, 32, 3, 9, 32, 32, 32, 32, 32, 32, 32, 32, 38, 32, 32, 5, 4, 3, 41, 32, 32, 32, 32, 32, 32, 32, 32, 32, 3, 3, 3]) (by kernel_rfl) (by kernel_rfl) hv
  obtain ⟨a0, a1, a2, a3, a4, a5, a6, a7, a8, f0, f1, f2, f3, f4, f5, f6, f7, l, b0, b1, b2, b3, b4, b5, g0, g1, g2, g3, g4, g5, g6, g7, c0, c1, c2, c3, rfl⟩ := cells36 hl
  obtain ⟨_, e_a0, h_a0⟩ := hc 0 _ rfl
  obtain ⟨_, e_a1, h_a1⟩ := hc 1 _ rfl
  obtain ⟨_, e_a2, h_a2⟩ := hc 2 _ rfl
  obtain ⟨_, e_a3, h_a3⟩ := hc 3 _ rfl
  obtain ⟨_, e_a4, h_a4⟩ := hc 4 _ rfl
  obtain ⟨_, e_a5, h_a5⟩ := hc 5 _ rfl
  obtain ⟨_, e_a6, h_a6⟩ := hc 6 _ rfl
  obtain ⟨_, e_a7, h_a7⟩ := hc 7 _ rfl
  obtain ⟨_, e_a8, h_a8⟩ := hc 8 _ rfl
  obtain ⟨_, e_f0, h_f0⟩ := hc 9 _ rfl
  obtain ⟨_, e_f1, h_f1⟩ := hc 10 _ rfl
  obtain ⟨_, e_f2, h_f2⟩ := hc 11 _ rfl
  obtain ⟨_, e_f3, h_f3⟩ := hc 12 _ rfl
  obtain ⟨_, e_f4, h_f4⟩ := hc 13 _ rfl
  obtain ⟨_, e_f5, h_f5⟩ := hc 14 _ rfl
  obtain ⟨_, e_f6, h_f6⟩ := hc 15 _ rfl
  obtain ⟨_, e_f7, h_f7⟩ := hc 16 _ rfl
  obtain ⟨_, e_l, h_l⟩ := hc 17 _ rfl
  obtain ⟨_, e_b0, h_b0⟩ := hc 18 _ rfl
  obtain ⟨_, e_b1, h_b1⟩ := hc 19 _ rfl
  obtain ⟨_, e_b2, h_b2⟩ := hc 20 _ rfl
  obtain ⟨_, e_b3, h_b3⟩ := hc 21 _ rfl
  obtain ⟨_, e_b4, h_b4⟩ := hc 22 _ rfl
  obtain ⟨_, e_b5, h_b5⟩ := hc 23 _ rfl
  obtain ⟨_, e_g0, h_g0⟩ := hc 24 _ rfl
  obtain ⟨_, e_g1, h_g1⟩ := hc 25 _ rfl
  obtain ⟨_, e_g2, h_g2⟩ := hc 26 _ rfl
  obtain ⟨_, e_g3, h_g3⟩ := hc 27 _ rfl
  obtain ⟨_, e_g4, h_g4⟩ := hc 28 _ rfl
  obtain ⟨_, e_g5, h_g5⟩ := hc 29 _ rfl
  obtain ⟨_, e_g6, h_g6⟩ := hc 30 _ rfl
  obtain ⟨_, e_g7, h_g7⟩ := hc 31 _ rfl
  obtain ⟨_, e_c0, h_c0⟩ := hc 32 _ rfl
  obtain ⟨_, e_c1, h_c1⟩ := hc 33 _ rfl
  obtain ⟨_, e_c2, h_c2⟩ := hc 34 _ rfl
  obtain ⟨_, e_c3, h_c3⟩ := hc 35 _ rfl
  cases e_a0; cases e_a1; cases e_a2; cases e_a3; cases e_a4; cases e_a5; cases e_a6; cases e_a7; cases e_a8; cases e_f0; cases e_f1; cases e_f2; cases e_f3; cases e_f4; cases e_f5; cases e_f6; cases e_f7; cases e_l; cases e_b0; cases e_b1; cases e_b2; cases e_b3; cases e_b4; cases e_b5; cases e_g0; cases e_g1; cases e_g2; cases e_g3; cases e_g4; cases e_g5; cases e_g6; cases e_g7; cases e_c0; cases e_c1; cases e_c2; cases e_c3
  obtain ⟨n_a0, rfl, q_a0⟩ := cell_int Tryz.underlying5 h_a0
  obtain ⟨n_a1, rfl, q_a1⟩ := cell_int Tryz.underlying5 h_a1
  obtain ⟨n_a2, rfl, q_a2⟩ := cell_int Tryz.underlying32 h_a2
  obtain ⟨n_a3, rfl, q_a3⟩ := cell_int Tryz.underlying32 h_a3
  obtain ⟨n_a4, rfl, q_a4⟩ := cell_int Tryz.underlying32 h_a4
  obtain ⟨n_a5, rfl, q_a5⟩ := cell_int Tryz.underlying5 h_a5
  obtain ⟨n_a6, rfl, q_a6⟩ := cell_int Tryz.underlying32 h_a6
  obtain ⟨n_a7, rfl, q_a7⟩ := cell_int Tryz.underlying3 h_a7
  obtain ⟨n_a8, rfl, _⟩ := cell_string Tryz.underlying9 h_a8
  obtain ⟨n_f0, rfl, q_f0⟩ := cell_int Tryz.underlying32 h_f0
  obtain ⟨n_f1, rfl, q_f1⟩ := cell_int Tryz.underlying32 h_f1
  obtain ⟨n_f2, rfl, q_f2⟩ := cell_int Tryz.underlying32 h_f2
  obtain ⟨n_f3, rfl, q_f3⟩ := cell_int Tryz.underlying32 h_f3
  obtain ⟨n_f4, rfl, q_f4⟩ := cell_int Tryz.underlying32 h_f4
  obtain ⟨n_f5, rfl, q_f5⟩ := cell_int Tryz.underlying32 h_f5
  obtain ⟨n_f6, rfl, q_f6⟩ := cell_int Tryz.underlying32 h_f6
  obtain ⟨n_f7, rfl, q_f7⟩ := cell_int Tryz.underlying32 h_f7
  obtain ⟨n_b0, rfl, q_b0⟩ := cell_int Tryz.underlying32 h_b0
  obtain ⟨n_b1, rfl, q_b1⟩ := cell_int Tryz.underlying32 h_b1
  obtain ⟨n_b2, rfl, q_b2⟩ := cell_int Tryz.underlying5 h_b2
  obtain ⟨n_b3, rfl⟩ := cell_bool Tryz.underlying4 h_b3
  obtain ⟨n_b4, rfl, q_b4⟩ := cell_int Tryz.underlying3 h_b4
  obtain ⟨n_g0, rfl, q_g0⟩ := cell_int Tryz.underlying32 h_g0
  obtain ⟨n_g1, rfl, q_g1⟩ := cell_int Tryz.underlying32 h_g1
  obtain ⟨n_g2, rfl, q_g2⟩ := cell_int Tryz.underlying32 h_g2
  obtain ⟨n_g3, rfl, q_g3⟩ := cell_int Tryz.underlying32 h_g3
  obtain ⟨n_g4, rfl, q_g4⟩ := cell_int Tryz.underlying32 h_g4
  obtain ⟨n_g5, rfl, q_g5⟩ := cell_int Tryz.underlying32 h_g5
  obtain ⟨n_g6, rfl, q_g6⟩ := cell_int Tryz.underlying32 h_g6
  obtain ⟨n_g7, rfl, q_g7⟩ := cell_int Tryz.underlying32 h_g7
  obtain ⟨n_c0, rfl, q_c0⟩ := cell_int Tryz.underlying32 h_c0
  obtain ⟨n_c1, rfl, q_c1⟩ := cell_int Tryz.underlying3 h_c1
  obtain ⟨n_c2, rfl, q_c2⟩ := cell_int Tryz.underlying3 h_c2
  obtain ⟨n_c3, rfl, q_c3⟩ := cell_int Tryz.underlying3 h_c3
  have u_l : Value.okWide Tryz.prog w r b0 38 l := by simp only [Value.okWide, Tryz.underlying38]; exact h_l
  have u_b5 : Value.okWide Tryz.prog w r b0 41 b5 := by simp only [Value.okWide, Tryz.underlying41]; exact h_b5
  obtain ⟨fuel, hf⟩ := h
  obtain ⟨xs4, n, _, _, _, hlen, hg⟩ := DataW.trod_struct Tryz.underlying49 hf
  have g := hg 5 _ rfl
  obtain ⟨yr, er⟩ : ∃ y, xs4[5]? = some y := ⟨_, List.getElem?_eq_getElem (by rw [hlen]; decide)⟩
  rw [er] at g
  have k := hg 6 _ rfl
  obtain ⟨yk, ek⟩ : ∃ y, xs4[6]? = some y := ⟨_, List.getElem?_eq_getElem (by rw [hlen]; decide)⟩
  rw [ek] at k
  have cr : Tryz.prog.cellsOf 40 = 9 := by kernel_rfl
  have cv : Tryz.prog.cellsOf 45 = 6 := by kernel_rfl
  simp [cr, Value.cells] at g
  simp [cv, Value.cells] at k
  obtain ⟨z0, z1, mm, _, _, _, g⟩ := trod_struct2 Tryz.underlying40 g
  have cs1 : Tryz.prog.cellsOf 38 = 1 := by kernel_rfl
  have cs2 : Tryz.prog.cellsOf 41 = 1 := by kernel_rfl
  have cs3 : Tryz.prog.cellsOf 43 = 3 := by kernel_rfl
  simp [cs1] at g
  obtain ⟨xs5, n5, _, _, _, hlen5, k⟩ := DataW.trod_struct Tryz.underlying45 k
  replace k := k 3 _ rfl
  obtain ⟨yk, ek⟩ : ∃ y, xs5[3]? = some y := ⟨_, List.getElem?_eq_getElem (by rw [hlen5]; decide)⟩
  rw [ek] at k
  simp [cs3] at k
  obtain ⟨v0, v1, v2, m3, _, _, _, _, k⟩ := Go.Deep.trod_struct3 Tryz.underlying43 k
  simp [cs2] at k
  obtain ⟨_, _, _, q⟩ := okWide_slice Tryz.underlying38 u_l
  obtain ⟨A, c, ms, rfl, hle, hm, hR, hx, _⟩ := open_sibsM u_l ⟨mm, by rw [q] at g ⊢; exact g⟩
  obtain ⟨B, e, ks, eb, hleb, hmb, hRb, hks⟩ := open_nums k
  cases eb
  have hml : maxLen = 9223372036854775807 := rfl
  refine ⟨⟨n_a0, n_a1, n_a2, n_a3, n_a4, n_a5, n_a6, n_a7, n_a8.data.toList, vec8r n_f0 n_f1 n_f2 n_f3 n_f4 n_f5 n_f6 n_f7, ms.map Sm.s, n_b0, n_b1, n_b2, ⟨n_b3, n_b4, ks⟩, vec8r n_g0 n_g1 n_g2 n_g3 n_g4 n_g5 n_g6 n_g7, n_c0, n_c1, n_c2, n_c3⟩, ⟨A, c, B, e⟩, ms, ?_, ?_, ?_, ?_⟩
  · unfold recV recL
    simp only
    rw [strY_dr, List.length_map]
    rfl
  · refine ⟨⟨q_a0.1, q_a0.2⟩, ⟨q_a1.1, q_a1.2⟩, ⟨q_a2.1, q_a2.2⟩, ⟨q_a3.1, q_a3.2⟩, ⟨q_a4.1, q_a4.2⟩, ⟨q_a5.1, q_a5.2⟩, ⟨q_a6.1, q_a6.2⟩, ⟨q_a7.1, q_a7.2⟩, vec8r_ok ⟨q_f0.1, q_f0.2⟩ ⟨q_f1.1, q_f1.2⟩ ⟨q_f2.1, q_f2.2⟩ ⟨q_f3.1, q_f3.2⟩ ⟨q_f4.1, q_f4.2⟩ ⟨q_f5.1, q_f5.2⟩ ⟨q_f6.1, q_f6.2⟩ ⟨q_f7.1, q_f7.2⟩, ?_, ⟨q_b0.1, q_b0.2⟩, ⟨q_b1.1, q_b1.2⟩, ⟨q_b2.1, q_b2.2⟩, ⟨⟨q_b4.1, q_b4.2⟩, hks⟩, vec8r_ok ⟨q_g0.1, q_g0.2⟩ ⟨q_g1.1, q_g1.2⟩ ⟨q_g2.1, q_g2.2⟩ ⟨q_g3.1, q_g3.2⟩ ⟨q_g4.1, q_g4.2⟩ ⟨q_g5.1, q_g5.2⟩ ⟨q_g6.1, q_g6.2⟩ ⟨q_g7.1, q_g7.2⟩, ⟨q_c0.1, q_c0.2⟩, ⟨q_c1.1, q_c1.2⟩, ⟨q_c2.1, q_c2.2⟩, ⟨q_c3.1, q_c3.2⟩⟩
    intro s hs
    obtain ⟨m, hm, rfl⟩ := List.mem_map.1 hs
    exact (hx m hm).1
  · simp only [List.length_map]; omega
  · exact ⟨rfl, ⟨hR, fun m hm => (hx m hm).2⟩, hRb⟩
end
end Go.RV
