/- Texts of mine, packed for a claim (bundle.py). Conditions: none. -/
import Derived.Test.YtlebdkdjjegpgaaGreatK2x5
import Derived.Deep.Strs
import Derived.Deep.Fields
set_option maxRecDepth 20000
set_option linter.unusedVariables false
set_option linter.unusedSimpArgs false
namespace Go.RV
open Go Go.Proofs Go.RowKit

theorem fails18_c (t : List UInt8) (ht : t.length ≤ 1000000) (e : Int) (he : e ≠ 0) (h2 : (takeR t).2 = e) (w : World) :
    Fc Tryz.prog 24 [.string (strY t), .int .i64 e] w fun v w' => v = .bool true ∧ St [] w w' [] := by
  have h1 : (takeR t).1 = [] := by
    rcases takeR_got t with h | h
    · exact absurd (h2 ▸ h.1) he
    · exact h.2
  have hge : (e == e) = true := by simp
  refine fc_i TB_ok Tryz.func24 rfl (by kernel_rfl) ?_
  have hS := Sf.refl w
  repeat ((conv => whnf); first | (apply q_i; focus (intro w1 hS; (conv => whnf); first | exact ⟨rfl, rfl⟩)) | (refine nw_f hS ?_; intro b w1 hS) | (refine as_i hS ?_) | (refine as_i (hS.subs (List.nil_sublist _) (by repeat (first | exact List.Sublist.refl _ | apply List.Sublist.cons_cons | apply List.Sublist.cons))) ?_) | (refine as_i (hS.subs (List.Sublist.refl _) (by repeat (first | exact List.Sublist.refl _ | apply List.Sublist.cons_cons | apply List.Sublist.cons))) ?_) | (refine bar_f hS ?_) | (refine drawf TB_ok rfl (by kernel_rfl) (by kernel_rfl) hS (List.Sublist.refl _) (List.Sublist.refl _) ?_; intro w1 hS) | (refine br_t (by assumption) ?_) | (refine br_f (by assumption) ?_))
  refine fc_m (take18_c t ht _) ?_
  rintro v w1 ⟨A, c, rs, Lv, rfl, hrs, hK, hS'⟩
  rw [h2]
  rw [h1] at hrs
  obtain rfl : rs = [] := List.map_eq_nil_iff.1 hrs.symm
  replace hS := hS.callF hS'
  repeat ((conv => whnf); first | (apply q_i; focus (intro w1 hS; (conv => whnf); first | exact ⟨rfl, rfl⟩)) | (refine nw_f hS ?_; intro b w1 hS) | (refine as_i hS ?_) | (refine as_i (hS.subs (List.nil_sublist _) (by repeat (first | exact List.Sublist.refl _ | apply List.Sublist.cons_cons | apply List.Sublist.cons))) ?_) | (refine as_i (hS.subs (List.Sublist.refl _) (by repeat (first | exact List.Sublist.refl _ | apply List.Sublist.cons_cons | apply List.Sublist.cons))) ?_) | (refine bar_f hS ?_) | (refine drawf TB_ok rfl (by kernel_rfl) (by kernel_rfl) hS (List.Sublist.refl _) (List.Sublist.refl _) ?_; intro w1 hS) | (refine br_t (by assumption) ?_) | (refine br_f (by assumption) ?_))
  exact ⟨congrArg Value.bool hge, hS.nil⟩
theorem recs1 {rs : List Rm} {y : Rx} (h : [y] = rs.map Rm.x) : ∃ r, rs = [r] ∧ r.x = y := by
  cases rs with
  | nil => cases h
  | cons r rs =>
    simp only [List.map_cons, List.cons.injEq] at h
    obtain ⟨h1, h2⟩ := h
    have : rs = [] := List.map_eq_nil_iff.1 h2.symm
    subst this
    exact ⟨r, rfl, h1.symm⟩
theorem backR_few {x : Rx} (hz : fewR x) : fewR (backR x) := by
  have h1 : (backR x).p = [] ∨ (backR x).p = x.p := by
    show (needR x).p = [] ∨ (needR x).p = x.p
    unfold needR
    repeat' split
    all_goals first
      | exact .inl rfl
      | exact .inr rfl
  have h2 : (backR x).xs = [] ∨ (backR x).xs = x.xs := by
    show (needR x).xs = [] ∨ (needR x).xs = x.xs
    unfold needR
    repeat' split
    all_goals first
      | exact .inl rfl
      | exact .inr rfl
  have h3 : (backR x).v = zeroVa ∨ (backR x).v = x.v := by
    show (needR x).v = zeroVa ∨ (needR x).v = x.v
    unfold needR
    repeat' split
    all_goals first
      | exact .inl rfl
      | exact .inr rfl
  refine ⟨?_, ?_, ?_, ?_⟩
  · rcases h1 with h | h <;> rw [h]
    · simp
    · exact hz.p
  · rcases h2 with h | h <;> rw [h]
    · simp
    · exact hz.l
  · rcases h2 with h | h <;> rw [h]
    · intro s hs; cases hs
    · exact hz.el
  · rcases h3 with h | h <;> rw [h]
    · show (0 : Nat) ≤ 20; decide
    · exact hz.v
theorem puts18_c (x : Rx) (ho : okR x) (hz : fewR x) (hc : checkR x = true) (h : Hd) (ms : List Sm) (want : List UInt8) (hw : recT x = want) (w : World) (hx : MemR w x h ms) :
    Fc Tryz.prog 23 [recV x h, .string (strY want)] w fun v w' => v = .bool true ∧ St [] w w' [] := by
  have hwl : want.length ≤ 300 := by rw [← hw]; exact recT_len hc
  have htk : takeR want = ([backR x], 0) := by
    have := take_all [x] (fun y hy => by obtain rfl := List.mem_singleton.1 hy; exact ⟨ho, hc⟩) []
    rw [List.flatMap_cons, List.flatMap_nil, List.append_nil, hw] at this
    exact this
  have hput := fun A c w' => putR_c A c [⟨x, h, ms⟩] (fun y hy => by obtain rfl := List.mem_singleton.1 hy; exact ⟨ho, hz.sz⟩) (by simp) w'
  have hpe : putR ([(⟨x, h, ms⟩ : Rm)].map Rm.x) = (want, 0) := by
    rw [show ([(⟨x, h, ms⟩ : Rm)].map Rm.x) = [x] from rfl, putR1, if_pos hc, hw]
  rw [hpe] at hput
  have hck := fun w' => check18_c x ho hz.sz h ms w'
  rw [hc] at hck
  have heq : streq (strY want) (strY want) = true := by rw [streq_strY]; simp
  have hb := back_lk hc
  have hsm : sameR (backR x) x = true := sameR_iff.2 hb
  have hbf := backR_few hz
  clear hpe
  refine fc_i TB_ok Tryz.func23 rfl (by kernel_rfl) ?_
  have hS := Sf.refl w
  repeat ((conv => whnf); first | (apply q_i; focus (intro w1 hS; (conv => whnf); first | exact ⟨rfl, rfl⟩ | ((refine ld_f hS 0 rfl rfl ?_); (conv => whnf); exact ⟨rfl, rfl⟩) | ((refine ld_f hS 1 rfl rfl ?_); (conv => whnf); exact ⟨rfl, rfl⟩) | ((refine ldA_f hS 0 rfl rfl ?_); (conv => whnf); exact ⟨rfl, rfl⟩) | ((refine ldA_f hS 1 rfl rfl ?_); (conv => whnf); exact ⟨rfl, rfl⟩))) | (refine nw_f hS ?_; intro b w1 hS) | (refine as_i hS ?_) | (refine as_i (hS.subs (List.nil_sublist _) (by repeat (first | exact List.Sublist.refl _ | apply List.Sublist.cons_cons | apply List.Sublist.cons))) ?_) | (refine as_i (hS.subs (List.Sublist.refl _) (by repeat (first | exact List.Sublist.refl _ | apply List.Sublist.cons_cons | apply List.Sublist.cons))) ?_) | (refine bar_f hS ?_) | (refine ld_f hS 0 rfl rfl ?_) | (refine ld_f hS 1 rfl rfl ?_) | (refine ldA_f hS 0 rfl rfl ?_) | (refine ldA_f hS 1 rfl rfl ?_) | (refine stN_f hS 0 rfl (Nat.le_of_ble_eq_true rfl) rfl rfl ?_; (conv => whnf); intro w1 hS) | (refine stN_f hS 1 rfl (Nat.le_of_ble_eq_true rfl) rfl rfl ?_; (conv => whnf); intro w1 hS) | (refine stM_f hS 0 rfl (Nat.le_of_ble_eq_true rfl) rfl ?_; (conv => whnf); intro w1 hS) | (refine stM_f hS 1 rfl (Nat.le_of_ble_eq_true rfl) rfl ?_; (conv => whnf); intro w1 hS) | (refine drawf TB_ok rfl (by kernel_rfl) (by kernel_rfl) hS (List.Sublist.refl _) (List.Sublist.refl _) ?_; intro w1 hS) | (refine br_t (by assumption) ?_) | (refine br_f (by assumption) ?_))
  refine fc_m (hput _ _ _ ⟨hS.rd 0 rfl, fun y hy => by obtain rfl := List.mem_singleton.1 hy; exact hx.below hS.nil⟩) ?_
  rintro v w1 ⟨rfl, hS'⟩
  replace hS := hS.call0 hS'
  repeat ((conv => whnf); first | (apply q_i; focus (intro w1 hS; (conv => whnf); first | exact ⟨rfl, rfl⟩ | ((refine ld_f hS 0 rfl rfl ?_); (conv => whnf); exact ⟨rfl, rfl⟩) | ((refine ld_f hS 1 rfl rfl ?_); (conv => whnf); exact ⟨rfl, rfl⟩) | ((refine ldA_f hS 0 rfl rfl ?_); (conv => whnf); exact ⟨rfl, rfl⟩) | ((refine ldA_f hS 1 rfl rfl ?_); (conv => whnf); exact ⟨rfl, rfl⟩))) | (refine nw_f hS ?_; intro b w1 hS) | (refine as_i hS ?_) | (refine as_i (hS.subs (List.nil_sublist _) (by repeat (first | exact List.Sublist.refl _ | apply List.Sublist.cons_cons | apply List.Sublist.cons))) ?_) | (refine as_i (hS.subs (List.Sublist.refl _) (by repeat (first | exact List.Sublist.refl _ | apply List.Sublist.cons_cons | apply List.Sublist.cons))) ?_) | (refine bar_f hS ?_) | (refine ld_f hS 0 rfl rfl ?_) | (refine ld_f hS 1 rfl rfl ?_) | (refine ldA_f hS 0 rfl rfl ?_) | (refine ldA_f hS 1 rfl rfl ?_) | (refine stN_f hS 0 rfl (Nat.le_of_ble_eq_true rfl) rfl rfl ?_; (conv => whnf); intro w1 hS) | (refine stN_f hS 1 rfl (Nat.le_of_ble_eq_true rfl) rfl rfl ?_; (conv => whnf); intro w1 hS) | (refine stM_f hS 0 rfl (Nat.le_of_ble_eq_true rfl) rfl ?_; (conv => whnf); intro w1 hS) | (refine stM_f hS 1 rfl (Nat.le_of_ble_eq_true rfl) rfl ?_; (conv => whnf); intro w1 hS) | (refine drawf TB_ok rfl (by kernel_rfl) (by kernel_rfl) hS (List.Sublist.refl _) (List.Sublist.refl _) ?_; intro w1 hS) | (refine br_t (by assumption) ?_) | (refine br_f (by assumption) ?_))
  refine fc_m (take18_c want (by omega) _) ?_
  rintro v w2 ⟨A, c, rs, Lv, rfl, hrs, hK, hS'⟩
  rw [htk] at hrs
  rw [htk]
  obtain ⟨r, rfl, hrx⟩ := recs1 hrs
  replace hS := hS.callF hS'
  have hRf : ∀ {w' : World} {F L : LM}, Sf [] w w' (Lv ++ F) L → RdR w' A [r] := fun h => hK _ (h.st.holds (Ls := Lv) (fun y hy => by simp [hy]))
  obtain ⟨b0, off, rfl⟩ := (hRf hS).rd.form (flat_ne encRm_len (by omega) (show 0 < [r].length by simp))
  have hsame := fun (w' : World) => sameR_c r.x x r.h h r.ms ms w'
  rw [hrx, hsm] at hsame
  have hmr : ∀ {w' : World} {F L : LM}, Sf [] w w' (Lv ++ F) L → MemR w' (backR x) r.h r.ms := fun h => by
    have := (hRf h).el r (by simp)
    rwa [hrx] at this
  have hrec : encRm r = recL (backR x) r.h := by unfold encRm; rw [hrx]
  have hld : ∀ {w' : World} {F L : LM} {o n : Nat} {K : List Value → Prop}, Sf [] w w' (Lv ++ F) L → o = off → n = 36 → K (recL (backR x) r.h) → LdN w' ⟨b0, o, none⟩ n K := fun h ho hn hk =>
    ldN_el encRm_len (hRf h).rd.at (i := 0) (by simp) (by omega) hn (by rw [show [r][0] = r from rfl, hrec]; exact hk)
  have hbl := hbf.l
  have hbv := hbf.v
  have hbe := hbf.el
  have hpl := hz.sz
  repeat ((conv => whnf); first | (apply q_i; focus (intro w1 hS; (conv => whnf); first | exact ⟨rfl, rfl⟩ | ((refine ld_f hS 0 rfl rfl ?_); (conv => whnf); exact ⟨rfl, rfl⟩) | ((refine ld_f hS 1 rfl rfl ?_); (conv => whnf); exact ⟨rfl, rfl⟩) | ((refine ldA_f hS 0 rfl rfl ?_); (conv => whnf); exact ⟨rfl, rfl⟩) | ((refine ldA_f hS 1 rfl rfl ?_); (conv => whnf); exact ⟨rfl, rfl⟩) | ((refine .mk ⟨by decide, by simp⟩ ?_; refine ix_i rfl ?_); (conv => whnf); exact ⟨rfl, rfl⟩) | ((refine hld hS rfl rfl ?_); (conv => whnf); exact ⟨rfl, rfl⟩) | ((refine fc_m (hsame _ (hmr hS) (hx.below hS.nil) (by omega) (fun s hs => by have := hbe s hs; omega) (by omega)) ?_; rintro v w3 ⟨rfl, hS'⟩; replace hS := hS.call0 hS'); (conv => whnf); exact ⟨rfl, rfl⟩) | ((refine fc_m (hck _ (hx.below hS.nil)) ?_; rintro v w3 ⟨rfl, hS'⟩; replace hS := hS.call0 hS'); (conv => whnf); exact ⟨rfl, rfl⟩))) | (refine nw_f hS ?_; intro b w1 hS) | (refine as_i hS ?_) | (refine as_i (hS.subs (List.nil_sublist _) (by repeat (first | exact List.Sublist.refl _ | apply List.Sublist.cons_cons | apply List.Sublist.cons))) ?_) | (refine as_i (hS.subs (List.Sublist.refl _) (by repeat (first | exact List.Sublist.refl _ | apply List.Sublist.cons_cons | apply List.Sublist.cons))) ?_) | (refine bar_f hS ?_) | (refine ld_f hS 0 rfl rfl ?_) | (refine ld_f hS 1 rfl rfl ?_) | (refine ldA_f hS 0 rfl rfl ?_) | (refine ldA_f hS 1 rfl rfl ?_) | (refine stN_f hS 0 rfl (Nat.le_of_ble_eq_true rfl) rfl rfl ?_; (conv => whnf); intro w1 hS) | (refine stN_f hS 1 rfl (Nat.le_of_ble_eq_true rfl) rfl rfl ?_; (conv => whnf); intro w1 hS) | (refine stM_f hS 0 rfl (Nat.le_of_ble_eq_true rfl) rfl ?_; (conv => whnf); intro w1 hS) | (refine stM_f hS 1 rfl (Nat.le_of_ble_eq_true rfl) rfl ?_; (conv => whnf); intro w1 hS) | (refine .mk ⟨by decide, by simp⟩ ?_; refine ix_i rfl ?_) | (refine hld hS rfl rfl ?_) | (refine fc_m (hsame _ (hmr hS) (hx.below hS.nil) (by omega) (fun s hs => by have := hbe s hs; omega) (by omega)) ?_; rintro v w3 ⟨rfl, hS'⟩; replace hS := hS.call0 hS') | (refine fc_m (hck _ (hx.below hS.nil)) ?_; rintro v w3 ⟨rfl, hS'⟩; replace hS := hS.call0 hS') | (refine drawf TB_ok rfl (by kernel_rfl) (by kernel_rfl) hS (List.Sublist.refl _) (List.Sublist.refl _) ?_; intro w1 hS) | (refine br_t (by assumption) ?_) | (refine br_f (by assumption) ?_))
  exact ⟨rfl, hS.nil⟩
theorem refusedV_c (x : Rx) (h : Hd) (ms : List Sm) (z0 : ByteArray) (e4 s0 : Int) (g0 : streq z0 ⟨#[]⟩ = true) (g4 : (e4 == 4) = true) (gs : (s0 == 0) = true)
    (hput : ∀ A c w', RdR w' A [⟨x, h, ms⟩] → Fc Tryz.prog 13 [.slice A 1 c] w' fun v w'' => v = .tuple #[.string z0, .int .i64 e4] ∧ St [] w' w'' [])
    (hck : ∀ w', MemR w' x h ms → Fc Tryz.prog 15 [recV x h] w' fun v w'' => v = .int .i64 e4 ∧ St [] w' w'' [])
    (hsz : ∀ A c w', RdR w' A [⟨x, h, ms⟩] → Fc Tryz.prog 19 [.slice A 1 c] w' fun v w'' => v = .int .i64 s0 ∧ St [] w' w'' []) (w : World) (hx : MemR w x h ms) :
    Fc Tryz.prog 25 [recV x h] w fun v w' => v = .bool true ∧ St [] w w' [] := by
  refine fc_i TB_ok Tryz.func25 rfl (by kernel_rfl) ?_
  have hS := Sf.refl w
  repeat ((conv => whnf); first | (apply q_i; focus (intro w1 hS; (conv => whnf); first | exact ⟨rfl, rfl⟩ | ((refine ld_f hS 0 rfl rfl ?_); (conv => whnf); exact ⟨rfl, rfl⟩) | ((refine ldA_f hS 0 rfl rfl ?_); (conv => whnf); exact ⟨rfl, rfl⟩))) | (refine nw_f hS ?_; intro b w1 hS) | (refine as_i hS ?_) | (refine as_i (hS.subs (List.nil_sublist _) (by repeat (first | exact List.Sublist.refl _ | apply List.Sublist.cons_cons | apply List.Sublist.cons))) ?_) | (refine as_i (hS.subs (List.Sublist.refl _) (by repeat (first | exact List.Sublist.refl _ | apply List.Sublist.cons_cons | apply List.Sublist.cons))) ?_) | (refine bar_f hS ?_) | (refine ld_f hS 0 rfl rfl ?_) | (refine ldA_f hS 0 rfl rfl ?_) | (refine stN_f hS 0 rfl (Nat.le_of_ble_eq_true rfl) rfl rfl ?_; (conv => whnf); intro w1 hS) | (refine stM_f hS 0 rfl (Nat.le_of_ble_eq_true rfl) rfl ?_; (conv => whnf); intro w1 hS) | (refine drawf TB_ok rfl (by kernel_rfl) (by kernel_rfl) hS (List.Sublist.refl _) (List.Sublist.refl _) ?_; intro w1 hS) | (refine br_t (by assumption) ?_) | (refine br_f (by assumption) ?_))
  refine fc_m (hput _ _ _ ⟨hS.rd 0 rfl, fun y hy => by obtain rfl := List.mem_singleton.1 hy; exact hx.below hS.nil⟩) ?_
  rintro v w1 ⟨rfl, hS'⟩
  replace hS := hS.call0 hS'
  repeat ((conv => whnf); first | (apply q_i; focus (intro w1 hS; (conv => whnf); first | exact ⟨rfl, rfl⟩ | ((refine ld_f hS 0 rfl rfl ?_); (conv => whnf); exact ⟨rfl, rfl⟩) | ((refine ld_f hS 1 rfl rfl ?_); (conv => whnf); exact ⟨rfl, rfl⟩) | ((refine ldA_f hS 0 rfl rfl ?_); (conv => whnf); exact ⟨rfl, rfl⟩) | ((refine ldA_f hS 1 rfl rfl ?_); (conv => whnf); exact ⟨rfl, rfl⟩) | ((refine fc_m (hck _ (hx.below hS.nil)) ?_; rintro v w3 ⟨rfl, hS'⟩; replace hS := hS.call0 hS'); (conv => whnf); exact ⟨rfl, rfl⟩) | ((refine fc_m (hsz _ _ _ ⟨hS.rd 0 rfl, fun y hy => by obtain rfl := List.mem_singleton.1 hy; exact hx.below hS.nil⟩) ?_; rintro v w3 ⟨rfl, hS'⟩; replace hS := hS.call0 hS'); (conv => whnf); exact ⟨rfl, rfl⟩))) | (refine nw_f hS ?_; intro b w1 hS) | (refine as_i hS ?_) | (refine as_i (hS.subs (List.nil_sublist _) (by repeat (first | exact List.Sublist.refl _ | apply List.Sublist.cons_cons | apply List.Sublist.cons))) ?_) | (refine as_i (hS.subs (List.Sublist.refl _) (by repeat (first | exact List.Sublist.refl _ | apply List.Sublist.cons_cons | apply List.Sublist.cons))) ?_) | (refine bar_f hS ?_) | (refine ld_f hS 0 rfl rfl ?_) | (refine ld_f hS 1 rfl rfl ?_) | (refine ldA_f hS 0 rfl rfl ?_) | (refine ldA_f hS 1 rfl rfl ?_) | (refine stN_f hS 0 rfl (Nat.le_of_ble_eq_true rfl) rfl rfl ?_; (conv => whnf); intro w1 hS) | (refine stN_f hS 1 rfl (Nat.le_of_ble_eq_true rfl) rfl rfl ?_; (conv => whnf); intro w1 hS) | (refine stM_f hS 0 rfl (Nat.le_of_ble_eq_true rfl) rfl ?_; (conv => whnf); intro w1 hS) | (refine stM_f hS 1 rfl (Nat.le_of_ble_eq_true rfl) rfl ?_; (conv => whnf); intro w1 hS) | (refine fc_m (hck _ (hx.below hS.nil)) ?_; rintro v w3 ⟨rfl, hS'⟩; replace hS := hS.call0 hS') | (refine fc_m (hsz _ _ _ ⟨hS.rd 0 rfl, fun y hy => by obtain rfl := List.mem_singleton.1 hy; exact hx.below hS.nil⟩) ?_; rintro v w3 ⟨rfl, hS'⟩; replace hS := hS.call0 hS') | (refine drawf TB_ok rfl (by kernel_rfl) (by kernel_rfl) hS (List.Sublist.refl _) (List.Sublist.refl _) ?_; intro w1 hS) | (refine br_t (by assumption) ?_) | (refine br_f (by assumption) ?_))
  exact ⟨congrArg Value.bool gs, hS.nil⟩
theorem refused18_c (x : Rx) (ho : okR x) (hz : fewR x) (hc : checkR x = false) (h : Hd) (ms : List Sm) (w : World) (hx : MemR w x h ms) :
    Fc Tryz.prog 25 [recV x h] w fun v w' => v = .bool true ∧ St [] w w' [] := by
  have hoz : ∀ r ∈ [(⟨x, h, ms⟩ : Rm)], okR r.x ∧ szR r.x := fun y hy => by obtain rfl := List.mem_singleton.1 hy; exact ⟨ho, hz.sz⟩
  have hpe : putR ([(⟨x, h, ms⟩ : Rm)].map Rm.x) = ([], 4) := by
    rw [show ([(⟨x, h, ms⟩ : Rm)].map Rm.x) = [x] from rfl, putR1, if_neg (by rw [hc]; decide)]
  refine refusedV_c x h ms (strY []) 4 (([] : List UInt8).length : Nat) (by rw [streq_nil]; rfl) rfl rfl (fun A c w' hR => ?_) (fun w' hM => ?_) (fun A c w' hR => ?_) w hx
  · have := putR_c A c [⟨x, h, ms⟩] hoz (by simp) w' hR
    rw [hpe] at this
    exact this
  · have := check18_c x ho hz.sz h ms w' hM
    rw [hc] at this
    exact this
  · have := sizeR_c A c [⟨x, h, ms⟩] hoz (by simp) w' hR
    rw [hpe] at this
    exact this
def wk1 : Rx := { zeroRx 1 with r := 3 }
def wk2 : Rx := { zeroRx 4 with p := [47, 97], f := fun j => if j = 1 then 2 else 0, xs := [⟨1, 2, ⟨true, 0, []⟩⟩] }
theorem wk1_check : checkR wk1 = true := by decide +kernel
theorem wk2_check : checkR wk2 = true := by decide +kernel
theorem wk1_text : recT wk1 = [1, 3] := by decide +kernel
theorem wk2_text : recT wk2 = [4, 2, 47, 97, 2, 0, 2, 1, 1, 0, 2, 1] := by decide +kernel
theorem wk_nine : (takeR [9]).2 = 4 := by decide +kernel
theorem wk_torn : (takeR [1]).2 = 10 := by decide +kernel
end Go.RV


set_option maxRecDepth 20000
set_option linter.unusedVariables false
set_option linter.unusedSimpArgs false
namespace Go.RV
open Go Go.Proofs Go.RowKit

def dirF : Nat → Int := fun j => if j = 1 then 2 else 0
def dirM : Sm := ⟨⟨1, 2, ⟨true, 0, []⟩⟩, none, 0⟩
theorem dir18_c (w : World) : Fc Tryz.prog 26 [] w fun v w' => ∃ q, v = regV dirF (some ⟨q, 0, none⟩) 1 1 ∧ St [] w w' [(q, .cells (encM dirM).toArray 94 (0, 0))] := by
  refine fc_i TB_ok Tryz.func26 rfl (by kernel_rfl) ?_
  have hS := Sf.refl w
  repeat ((conv => whnf); first | (apply q_i; focus (intro w1 hS; (conv => whnf); first | exact ⟨rfl, rfl⟩ | ((refine ld_f hS 0 rfl rfl ?_); (conv => whnf); exact ⟨rfl, rfl⟩) | ((refine ld_f hS 1 rfl rfl ?_); (conv => whnf); exact ⟨rfl, rfl⟩) | ((refine ld_f hS 2 rfl rfl ?_); (conv => whnf); exact ⟨rfl, rfl⟩) | ((refine ldA_f hS 0 rfl rfl ?_); (conv => whnf); exact ⟨rfl, rfl⟩) | ((refine ldA_f hS 1 rfl rfl ?_); (conv => whnf); exact ⟨rfl, rfl⟩) | ((refine ldA_f hS 2 rfl rfl ?_); (conv => whnf); exact ⟨rfl, rfl⟩) | ((refine ldN_f hS 0 rfl (Nat.le_of_ble_eq_true rfl) ?_); (conv => whnf); exact ⟨rfl, rfl⟩) | ((refine ldN_f hS 1 rfl (Nat.le_of_ble_eq_true rfl) ?_); (conv => whnf); exact ⟨rfl, rfl⟩))) | (refine nw_f hS ?_; intro b w1 hS) | (refine as_i hS ?_) | (refine as_i (hS.subs (List.nil_sublist _) (by repeat (first | exact List.Sublist.refl _ | apply List.Sublist.cons_cons | apply List.Sublist.cons))) ?_) | (refine as_i (hS.subs (List.Sublist.refl _) (by repeat (first | exact List.Sublist.refl _ | apply List.Sublist.cons_cons | apply List.Sublist.cons))) ?_) | (refine bar_f hS ?_) | (refine ld_f hS 0 rfl rfl ?_) | (refine ld_f hS 1 rfl rfl ?_) | (refine ld_f hS 2 rfl rfl ?_) | (refine ldA_f hS 0 rfl rfl ?_) | (refine ldA_f hS 1 rfl rfl ?_) | (refine ldA_f hS 2 rfl rfl ?_) | (refine stN_f hS 0 rfl (Nat.le_of_ble_eq_true rfl) rfl rfl ?_; (conv => whnf); intro w1 hS) | (refine stN_f hS 1 rfl (Nat.le_of_ble_eq_true rfl) rfl rfl ?_; (conv => whnf); intro w1 hS) | (refine stN_f hS 2 rfl (Nat.le_of_ble_eq_true rfl) rfl rfl ?_; (conv => whnf); intro w1 hS) | (refine stM_f hS 0 rfl (Nat.le_of_ble_eq_true rfl) rfl ?_; (conv => whnf); intro w1 hS) | (refine stM_f hS 1 rfl (Nat.le_of_ble_eq_true rfl) rfl ?_; (conv => whnf); intro w1 hS) | (refine stM_f hS 2 rfl (Nat.le_of_ble_eq_true rfl) rfl ?_; (conv => whnf); intro w1 hS) | (refine ldN_f hS 0 rfl (Nat.le_of_ble_eq_true rfl) ?_) | (refine ldN_f hS 1 rfl (Nat.le_of_ble_eq_true rfl) ?_) | (refine drawf TB_ok rfl (by kernel_rfl) (by kernel_rfl) hS (List.Sublist.refl _) (List.Sublist.refl _) ?_; intro w1 hS) | (refine br_t (by assumption) ?_) | (refine br_f (by assumption) ?_))
  exact ⟨_, rfl, hS.sub (.cons_cons _ (.cons _ (.refl _)))⟩
theorem wk1_ok : okR wk1 := { zeroRx_ok (k := 1) (by decide) with r := (by show (0 : Int) ≤ 3 ∧ (3 : Int) ≤ 255; decide) }
theorem wk1_few : fewR wk1 := ⟨Nat.zero_le _, Nat.zero_le _, (fun s hs => (nomatch hs)), Nat.zero_le _⟩
theorem dirF_ok : ∀ j, j < 8 → 0 ≤ dirF j ∧ dirF j ≤ 4294967295 := fun j _ => by unfold dirF; split <;> decide
theorem dir_el : okSv dirM.s := ⟨by decide, by decide, by decide, fun k hk => (nomatch hk)⟩
theorem wk2_ok : okR wk2 := { zeroRx_ok (k := 4) (by decide) with f := dirF_ok, xs := fun s hs => by obtain rfl := List.mem_singleton.1 hs; exact dir_el }
theorem wk2_few : fewR wk2 := ⟨by decide, by decide, fun s hs => by obtain rfl := List.mem_singleton.1 hs; exact Nat.zero_le _, Nat.zero_le _⟩
theorem wk2_mem {w : World} {b : Nat} (hR : Rd w (some ⟨b, 0, none⟩) (flat encM [dirM])) : MemR w wk2 ⟨some ⟨b, 0, none⟩, 1, none, 0⟩ [dirM] :=
  ⟨rfl, ⟨hR, fun m hm => by obtain rfl := List.mem_singleton.1 hm; exact .inl rfl⟩, .inl rfl⟩
theorem works18_c (w : World) : Fc Tryz.prog 8 [] w fun v w' => v = .bool true ∧ St [] w w' [] := by
  refine fc_i TB_ok Tryz.func8 rfl (by kernel_rfl) ?_
  have hS := Sf.refl w
  have p1 := fun (w' : World) => puts18_c wk1 wk1_ok wk1_few wk1_check noHd [] [1, 3] wk1_text w' (mem_none wk1 w' rfl rfl)
  have p2 := fun (w' : World) q => puts18_c wk2 wk2_ok wk2_few wk2_check ⟨some ⟨q, 0, none⟩, 1, none, 0⟩ [dirM] [4, 2, 47, 97, 2, 0, 2, 1, 1, 0, 2, 1] wk2_text w'
  have f1 := fun (w' : World) => fails18_c [9] (by decide) 4 (by decide) wk_nine w'
  have f2 := fun (w' : World) => fails18_c [1] (by decide) 10 (by decide) wk_torn w'
  repeat ((conv => whnf); first | (apply q_i; focus (intro w1 hS; (conv => whnf); first | exact ⟨rfl, rfl⟩)) | (refine nw_f hS ?_; intro b w1 hS) | (refine as_i hS ?_) | (refine as_i (hS.subs (List.nil_sublist _) (by repeat (first | exact List.Sublist.refl _ | apply List.Sublist.cons_cons | apply List.Sublist.cons))) ?_) | (refine as_i (hS.subs (List.Sublist.refl _) (by repeat (first | exact List.Sublist.refl _ | apply List.Sublist.cons_cons | apply List.Sublist.cons))) ?_) | (refine bar_f hS ?_) | (refine drawf TB_ok rfl (by kernel_rfl) (by kernel_rfl) hS (List.Sublist.refl _) (List.Sublist.refl _) ?_; intro w1 hS) | (refine br_t (by assumption) ?_) | (refine br_f (by assumption) ?_))
  refine fc_m (p1 _) ?_
  rintro v w1 ⟨rfl, hS'⟩
  replace hS := hS.call0 hS'
  repeat ((conv => whnf); first | (apply q_i; focus (intro w1 hS; (conv => whnf); first | exact ⟨rfl, rfl⟩)) | (refine nw_f hS ?_; intro b w1 hS) | (refine as_i hS ?_) | (refine as_i (hS.subs (List.nil_sublist _) (by repeat (first | exact List.Sublist.refl _ | apply List.Sublist.cons_cons | apply List.Sublist.cons))) ?_) | (refine as_i (hS.subs (List.Sublist.refl _) (by repeat (first | exact List.Sublist.refl _ | apply List.Sublist.cons_cons | apply List.Sublist.cons))) ?_) | (refine bar_f hS ?_) | (refine drawf TB_ok rfl (by kernel_rfl) (by kernel_rfl) hS (List.Sublist.refl _) (List.Sublist.refl _) ?_; intro w1 hS) | (refine br_t (by assumption) ?_) | (refine br_f (by assumption) ?_))
  refine fc_m (dir18_c _) ?_
  rintro v w2 ⟨q, rfl, hS'⟩
  replace hS := hS.call' hS'
  repeat ((conv => whnf); first | (apply q_i; focus (intro w1 hS; (conv => whnf); first | exact ⟨rfl, rfl⟩ | ((refine ld_f hS 0 rfl rfl ?_); (conv => whnf); exact ⟨rfl, rfl⟩) | ((refine ldA_f hS 0 rfl rfl ?_); (conv => whnf); exact ⟨rfl, rfl⟩))) | (refine nw_f hS ?_; intro b w1 hS) | (refine as_i hS ?_) | (refine as_i (hS.subs (List.nil_sublist _) (by repeat (first | exact List.Sublist.refl _ | apply List.Sublist.cons_cons | apply List.Sublist.cons))) ?_) | (refine as_i (hS.subs (List.Sublist.refl _) (by repeat (first | exact List.Sublist.refl _ | apply List.Sublist.cons_cons | apply List.Sublist.cons))) ?_) | (refine bar_f hS ?_) | (refine ld_f hS 0 rfl rfl ?_) | (refine ldA_f hS 0 rfl rfl ?_) | (refine stN_f hS 0 rfl (Nat.le_of_ble_eq_true rfl) rfl rfl ?_; (conv => whnf); intro w1 hS) | (refine stM_f hS 0 rfl (Nat.le_of_ble_eq_true rfl) rfl ?_; (conv => whnf); intro w1 hS) | (refine drawf TB_ok rfl (by kernel_rfl) (by kernel_rfl) hS (List.Sublist.refl _) (List.Sublist.refl _) ?_; intro w1 hS) | (refine br_t (by assumption) ?_) | (refine br_f (by assumption) ?_))
  refine fc_m (p2 _ q (wk2_mem (hS.rd 0 rfl))) ?_
  rintro v w3 ⟨rfl, hS'⟩
  replace hS := hS.call0 hS'
  repeat ((conv => whnf); first | (apply q_i; focus (intro w1 hS; (conv => whnf); first | exact ⟨rfl, rfl⟩ | ((refine ld_f hS 0 rfl rfl ?_); (conv => whnf); exact ⟨rfl, rfl⟩) | ((refine ldA_f hS 0 rfl rfl ?_); (conv => whnf); exact ⟨rfl, rfl⟩) | ((refine fc_m (f1 _) ?_; rintro v w3 ⟨rfl, hS'⟩; replace hS := hS.call0 hS'); (conv => whnf); exact ⟨rfl, rfl⟩) | ((refine fc_m (f2 _) ?_; rintro v w3 ⟨rfl, hS'⟩; replace hS := hS.call0 hS'); (conv => whnf); exact ⟨rfl, rfl⟩))) | (refine nw_f hS ?_; intro b w1 hS) | (refine as_i hS ?_) | (refine as_i (hS.subs (List.nil_sublist _) (by repeat (first | exact List.Sublist.refl _ | apply List.Sublist.cons_cons | apply List.Sublist.cons))) ?_) | (refine as_i (hS.subs (List.Sublist.refl _) (by repeat (first | exact List.Sublist.refl _ | apply List.Sublist.cons_cons | apply List.Sublist.cons))) ?_) | (refine bar_f hS ?_) | (refine ld_f hS 0 rfl rfl ?_) | (refine ldA_f hS 0 rfl rfl ?_) | (refine stN_f hS 0 rfl (Nat.le_of_ble_eq_true rfl) rfl rfl ?_; (conv => whnf); intro w1 hS) | (refine stM_f hS 0 rfl (Nat.le_of_ble_eq_true rfl) rfl ?_; (conv => whnf); intro w1 hS) | (refine fc_m (f1 _) ?_; rintro v w3 ⟨rfl, hS'⟩; replace hS := hS.call0 hS') | (refine fc_m (f2 _) ?_; rintro v w3 ⟨rfl, hS'⟩; replace hS := hS.call0 hS') | (refine drawf TB_ok rfl (by kernel_rfl) (by kernel_rfl) hS (List.Sublist.refl _) (List.Sublist.refl _) ?_; intro w1 hS) | (refine br_t (by assumption) ?_) | (refine br_f (by assumption) ?_))
  exact ⟨rfl, hS.nil⟩
end Go.RV


set_option maxRecDepth 20000
set_option linter.unusedVariables false
namespace Go.RV.Kn
open Go Go.Proofs Go.RowKit
def kgF : Nat → Int := fun j => if j = 0 then 3 else 0
theorem kgF_ok : ∀ j, j < 8 → 0 ≤ kgF j ∧ kgF j ≤ 4294967295 := fun j _ => by unfold kgF; split <;> decide
theorem v1_ok : okVa ⟨false, 65, [7, 8]⟩ := ⟨by decide, by decide⟩
theorem v2_ok : okVa ⟨true, 0, []⟩ := ⟨by decide, by decide⟩
def ka : Rx := { zeroRx 2 with n0 := 258, n1 := 1, n2 := 2 }
theorem ka_ok : okR ka := { zeroRx_ok (k := 2) (by decide) with n0 := (by show (0 : Int) ≤ 258 ∧ (258 : Int) ≤ 4294967295; decide), n1 := (by show (0 : Int) ≤ 1 ∧ (1 : Int) ≤ 4294967295; decide), n2 := (by show (0 : Int) ≤ 2 ∧ (2 : Int) ≤ 4294967295; decide) }
theorem ka_few : fewR ka := ⟨by decide, by decide, (fun s hs => (nomatch hs)), by decide⟩
theorem ka_check : checkR ka = true := by decide +kernel
theorem ka_text : recT ka = [2, 0, 0, 1, 2, 0, 0, 0, 1, 0, 0, 0, 2] := by decide +kernel
def kb : Rx := { zeroRx 6 with vi := 5 }
theorem kb_ok : okR kb := { zeroRx_ok (k := 6) (by decide) with vi := (by show (0 : Int) ≤ 5 ∧ (5 : Int) ≤ 4294967295; decide) }
theorem kb_few : fewR kb := ⟨by decide, by decide, (fun s hs => (nomatch hs)), by decide⟩
theorem kb_check : checkR kb = true := by decide +kernel
theorem kb_text : recT kb = [6, 0, 0, 0, 5] := by decide +kernel
def kc : Rx := { zeroRx 7 with ci := 7, cb := 200, cr := 2, cs := 64 }
theorem kc_ok : okR kc := { zeroRx_ok (k := 7) (by decide) with ci := (by show (0 : Int) ≤ 7 ∧ (7 : Int) ≤ 4294967295; decide), cb := (by show (-9223372036854775808 : Int) ≤ 200 ∧ (200 : Int) ≤ 9223372036854775807; decide), cr := (by show (-9223372036854775808 : Int) ≤ 2 ∧ (2 : Int) ≤ 9223372036854775807; decide), cs := (by show (-9223372036854775808 : Int) ≤ 64 ∧ (64 : Int) ≤ 9223372036854775807; decide) }
theorem kc_few : fewR kc := ⟨by decide, by decide, (fun s hs => (nomatch hs)), by decide⟩
theorem kc_check : checkR kc = true := by decide +kernel
theorem kc_text : recT kc = [7, 0, 0, 0, 7, 0, 200, 0, 2, 64] := by decide +kernel
def kd : Rx := { zeroRx 8 with r := 1, p := [47, 97], g := kgF }
theorem kd_ok : okR kd := { zeroRx_ok (k := 8) (by decide) with r := (by show (0 : Int) ≤ 1 ∧ (1 : Int) ≤ 255; decide), g := kgF_ok }
theorem kd_few : fewR kd := ⟨by decide, by decide, (fun s hs => (nomatch hs)), by decide⟩
theorem kd_check : checkR kd = true := by decide +kernel
theorem kd_text : recT kd = [8, 1, 2, 47, 97, 1, 0, 3] := by decide +kernel
def ke : Rx := { zeroRx 4 with p := [47, 97] }
theorem ke_ok : okR ke := { zeroRx_ok (k := 4) (by decide) with r := (by decide : (0 : Int) ≤ 0 ∧ (0 : Int) ≤ 255) }
theorem ke_few : fewR ke := ⟨by decide, by decide, (fun s hs => (nomatch hs)), by decide⟩
theorem ke_check : checkR ke = true := by decide +kernel
theorem ke_text : recT ke = [4, 2, 47, 97, 0, 0] := by decide +kernel
def kx : Rx := { zeroRx 5 with p := [47, 97], vi := 9, vt := 1, vc := 1, v := ⟨false, 65, [7, 8]⟩ }
theorem kx_ok : okR kx := { zeroRx_ok (k := 5) (by decide) with vi := (by show (0 : Int) ≤ 9 ∧ (9 : Int) ≤ 4294967295; decide), vt := (by show (0 : Int) ≤ 1 ∧ (1 : Int) ≤ 4294967295; decide), vc := (by show (0 : Int) ≤ 1 ∧ (1 : Int) ≤ 255; decide), v := v1_ok }
theorem kx_few : fewR kx := ⟨by decide, by decide, (fun s hs => (nomatch hs)), by decide⟩
theorem kx_check : checkR kx = true := by decide +kernel
theorem kx_text : recT kx = [5, 2, 47, 97, 0, 0, 0, 9, 0, 0, 0, 1, 1, 0, 0, 65, 0, 0, 0, 7, 0, 0, 0, 8] := by decide +kernel
def kf : Rx := { zeroRx 3 with rk := 1, ra := 2, rq := 3 }
theorem kf_ok : okR kf := { zeroRx_ok (k := 3) (by decide) with rk := (by show (0 : Int) ≤ 1 ∧ (1 : Int) ≤ 255; decide), ra := (by show (0 : Int) ≤ 2 ∧ (2 : Int) ≤ 4294967295; decide), rq := (by show (-9223372036854775808 : Int) ≤ 3 ∧ (3 : Int) ≤ 9223372036854775807; decide) }
theorem kf_few : fewR kf := ⟨by decide, by decide, (fun s hs => (nomatch hs)), by decide⟩
theorem kf_check : checkR kf = true := by decide +kernel
theorem kf_text : recT kf = [3, 1, 0, 0, 0, 2, 0, 0, 0, 3] := by decide +kernel
def kg : Rx := { zeroRx 7 with ci := 7 }
theorem kg_ok : okR kg := { zeroRx_ok (k := 7) (by decide) with ci := (by show (0 : Int) ≤ 7 ∧ (7 : Int) ≤ 4294967295; decide) }
theorem kg_few : fewR kg := ⟨by decide, by decide, (fun s hs => (nomatch hs)), by decide⟩
theorem kg_check : checkR kg = true := by decide +kernel
theorem kg_text : recT kg = [7, 0, 0, 0, 7, 0, 0, 0, 0, 0] := by decide +kernel
def ra : Rx := { zeroRx 5 with p := [47, 97], vi := 9, vt := 1, vc := 1, v := ⟨true, 0, []⟩ }
theorem ra_ok : okR ra := { zeroRx_ok (k := 5) (by decide) with vi := (by show (0 : Int) ≤ 9 ∧ (9 : Int) ≤ 4294967295; decide), vt := (by show (0 : Int) ≤ 1 ∧ (1 : Int) ≤ 4294967295; decide), vc := (by show (0 : Int) ≤ 1 ∧ (1 : Int) ≤ 255; decide), v := v2_ok }
theorem ra_few : fewR ra := ⟨by decide, by decide, (fun s hs => (nomatch hs)), by decide⟩
theorem ra_check : checkR ra = false := by decide +kernel
def rb : Rx := { zeroRx 5 with p := [47, 97], vi := 9, vt := 1, vc := 1, v := ⟨false, 65, [7, 8]⟩, r := 1 }
theorem rb_ok : okR rb := { zeroRx_ok (k := 5) (by decide) with vi := (by show (0 : Int) ≤ 9 ∧ (9 : Int) ≤ 4294967295; decide), vt := (by show (0 : Int) ≤ 1 ∧ (1 : Int) ≤ 4294967295; decide), vc := (by show (0 : Int) ≤ 1 ∧ (1 : Int) ≤ 255; decide), v := v1_ok, r := (by show (0 : Int) ≤ 1 ∧ (1 : Int) ≤ 255; decide) }
theorem rb_few : fewR rb := ⟨by decide, by decide, (fun s hs => (nomatch hs)), by decide⟩
theorem rb_check : checkR rb = false := by decide +kernel
def rc : Rx := { zeroRx 5 with p := [47, 97], vi := 9, vt := 1, vc := 5, v := ⟨false, 65, [7, 8]⟩ }
theorem rc_ok : okR rc := { zeroRx_ok (k := 5) (by decide) with vi := (by show (0 : Int) ≤ 9 ∧ (9 : Int) ≤ 4294967295; decide), vt := (by show (0 : Int) ≤ 1 ∧ (1 : Int) ≤ 4294967295; decide), vc := (by show (0 : Int) ≤ 5 ∧ (5 : Int) ≤ 255; decide), v := v1_ok }
theorem rc_few : fewR rc := ⟨by decide, by decide, (fun s hs => (nomatch hs)), by decide⟩
theorem rc_check : checkR rc = false := by decide +kernel
def rd : Rx := zeroRx 0
theorem rd_ok : okR rd := { zeroRx_ok (k := 0) (by decide) with r := (by decide : (0 : Int) ≤ 0 ∧ (0 : Int) ≤ 255) }
theorem rd_few : fewR rd := ⟨by decide, by decide, (fun s hs => (nomatch hs)), by decide⟩
theorem rd_check : checkR rd = false := by decide +kernel
def re : Rx := zeroRx 9
theorem re_ok : okR re := { zeroRx_ok (k := 9) (by decide) with r := (by decide : (0 : Int) ≤ 0 ∧ (0 : Int) ≤ 255) }
theorem re_few : fewR re := ⟨by decide, by decide, (fun s hs => (nomatch hs)), by decide⟩
theorem re_check : checkR re = false := by decide +kernel
def rf : Rx := { zeroRx 1 with r := 8 }
theorem rf_ok : okR rf := { zeroRx_ok (k := 1) (by decide) with r := (by show (0 : Int) ≤ 8 ∧ (8 : Int) ≤ 255; decide) }
theorem rf_few : fewR rf := ⟨by decide, by decide, (fun s hs => (nomatch hs)), by decide⟩
theorem rf_check : checkR rf = false := by decide +kernel
def rg : Rx := { zeroRx 3 with rq := -1 }
theorem rg_ok : okR rg := { zeroRx_ok (k := 3) (by decide) with rq := (by show (-9223372036854775808 : Int) ≤ -1 ∧ (-1 : Int) ≤ 9223372036854775807; decide) }
theorem rg_few : fewR rg := ⟨by decide, by decide, (fun s hs => (nomatch hs)), by decide⟩
theorem rg_check : checkR rg = false := by decide +kernel
def rh : Rx := { zeroRx 3 with rk := 2 }
theorem rh_ok : okR rh := { zeroRx_ok (k := 3) (by decide) with rk := (by show (0 : Int) ≤ 2 ∧ (2 : Int) ≤ 255; decide) }
theorem rh_few : fewR rh := ⟨by decide, by decide, (fun s hs => (nomatch hs)), by decide⟩
theorem rh_check : checkR rh = false := by decide +kernel
def ri : Rx := { zeroRx 4 with p := [47] }
theorem ri_ok : okR ri := { zeroRx_ok (k := 4) (by decide) with r := (by decide : (0 : Int) ≤ 0 ∧ (0 : Int) ≤ 255) }
theorem ri_few : fewR ri := ⟨by decide, by decide, (fun s hs => (nomatch hs)), by decide⟩
theorem ri_check : checkR ri = false := by decide +kernel
def rj : Rx := { zeroRx 7 with ci := 7, cs := 1 }
theorem rj_ok : okR rj := { zeroRx_ok (k := 7) (by decide) with ci := (by show (0 : Int) ≤ 7 ∧ (7 : Int) ≤ 4294967295; decide), cs := (by show (-9223372036854775808 : Int) ≤ 1 ∧ (1 : Int) ≤ 9223372036854775807; decide) }
theorem rj_few : fewR rj := ⟨by decide, by decide, (fun s hs => (nomatch hs)), by decide⟩
theorem rj_check : checkR rj = false := by decide +kernel
def rk : Rx := { zeroRx 2 with n2 := 1 }
theorem rk_ok : okR rk := { zeroRx_ok (k := 2) (by decide) with n2 := (by show (0 : Int) ≤ 1 ∧ (1 : Int) ≤ 4294967295; decide) }
theorem rk_few : fewR rk := ⟨by decide, by decide, (fun s hs => (nomatch hs)), by decide⟩
theorem rk_check : checkR rk = false := by decide +kernel
theorem fa_no : (takeR [1, 8]).2 = 4 := by decide +kernel
theorem fb_no : (takeR [1, 3, 9]).2 = 4 := by decide +kernel
theorem fc_no : (takeR [8, 1, 2, 47, 97, 1, 0, 0]).2 = 4 := by decide +kernel
theorem fd_no : (takeR [4, 2, 47, 97, 2, 0, 2, 1, 1, 0, 2, 2]).2 = 4 := by decide +kernel
theorem fe_no : (takeR [4, 2, 47, 97, 2, 0, 2, 1, 1, 0, 2]).2 = 10 := by decide +kernel
theorem ff_no : (takeR [4, 1, 97, 0, 0]).2 = 4 := by decide +kernel
theorem fg_no : (takeR [4, 1, 47, 0, 0]).2 = 4 := by decide +kernel
theorem fh_no : (takeR [0]).2 = 4 := by decide +kernel
theorem fi_no : (takeR [7, 0, 0, 0, 7, 8, 0, 0, 1, 1]).2 = 4 := by decide +kernel
theorem none_yes : takeR [] = ([], 0) := take_all [] (fun x hx => nomatch hx) []
theorem mem_x {x : Rx} {w : World} {q : Nat} (hv : x.v = ⟨false, 65, [7, 8]⟩) (hx : x.xs = []) (hR : Rd w (some ⟨q, 0, none⟩) (flat encU [7, 8])) : MemR w x ⟨none, 0, some ⟨q, 0, none⟩, 2⟩ [] :=
  ⟨hx, ⟨.inl rfl, fun m hm => nomatch hm⟩, by rw [hv]; exact hR⟩
theorem mem_0 {x : Rx} {w : World} (hx : x.xs = []) (hv : x.v.ks = []) : MemR w x noHd [] := ⟨hx, ⟨.inl rfl, fun m hm => nomatch hm⟩, .inl (by rw [hv]; rfl)⟩
end Go.RV.Kn

set_option maxRecDepth 20000
set_option linter.unusedVariables false
set_option linter.unusedSimpArgs false
namespace Go.RV
open Go Go.Proofs Go.RowKit
theorem file18_c (n : Int) (A : Option Addr) (l c : Nat) (w : World) : Fc Tryz.prog 22 [.int .i64 n, .slice A l c] w fun v w' => v = .agg #[.bool false, .int .i64 n, .slice A l c] ∧ St [] w w' [] := by
  refine fc_i TB_ok Tryz.func22 rfl (by kernel_rfl) ?_
  have hS := Sf.refl w
  repeat ((conv => whnf); first | (apply q_i; focus (intro w1 hS; (conv => whnf); first | exact ⟨rfl, rfl⟩ | ((refine ld_f hS 0 rfl rfl ?_); (conv => whnf); exact ⟨rfl, rfl⟩) | ((refine ldA_f hS 0 rfl rfl ?_); (conv => whnf); exact ⟨rfl, rfl⟩))) | (refine nw_f hS ?_; intro b w1 hS) | (refine as_i hS ?_) | (refine as_i (hS.subs (List.nil_sublist _) (by repeat (first | exact List.Sublist.refl _ | apply List.Sublist.cons_cons | apply List.Sublist.cons))) ?_) | (refine as_i (hS.subs (List.Sublist.refl _) (by repeat (first | exact List.Sublist.refl _ | apply List.Sublist.cons_cons | apply List.Sublist.cons))) ?_) | (refine bar_f hS ?_) | (refine ld_f hS 0 rfl rfl ?_) | (refine ldA_f hS 0 rfl rfl ?_) | (refine stN_f hS 0 rfl (Nat.le_of_ble_eq_true rfl) rfl rfl ?_; (conv => whnf); intro w1 hS) | (refine stM_f hS 0 rfl (Nat.le_of_ble_eq_true rfl) rfl ?_; (conv => whnf); intro w1 hS) | (refine drawf TB_ok rfl (by kernel_rfl) (by kernel_rfl) hS (List.Sublist.refl _) (List.Sublist.refl _) ?_; intro w1 hS) | (refine br_t (by assumption) ?_) | (refine br_f (by assumption) ?_))
  exact ⟨rfl, hS.nil⟩
set_option maxHeartbeats 16000000 in
theorem recordKnown_c (w : World) : Fc Tryz.prog 7 [] w fun v w' => v = .bool true ∧ St [] w w' [] := by
  have p_ka := fun (w' : World) => puts18_c Kn.ka Kn.ka_ok Kn.ka_few Kn.ka_check noHd [] [2, 0, 0, 1, 2, 0, 0, 0, 1, 0, 0, 0, 2] Kn.ka_text w' (Kn.mem_0 rfl rfl)
  have p_kb := fun (w' : World) => puts18_c Kn.kb Kn.kb_ok Kn.kb_few Kn.kb_check noHd [] [6, 0, 0, 0, 5] Kn.kb_text w' (Kn.mem_0 rfl rfl)
  have p_kc := fun (w' : World) => puts18_c Kn.kc Kn.kc_ok Kn.kc_few Kn.kc_check noHd [] [7, 0, 0, 0, 7, 0, 200, 0, 2, 64] Kn.kc_text w' (Kn.mem_0 rfl rfl)
  have p_kd := fun (w' : World) => puts18_c Kn.kd Kn.kd_ok Kn.kd_few Kn.kd_check noHd [] [8, 1, 2, 47, 97, 1, 0, 3] Kn.kd_text w' (Kn.mem_0 rfl rfl)
  have p_ke := fun (w' : World) => puts18_c Kn.ke Kn.ke_ok Kn.ke_few Kn.ke_check noHd [] [4, 2, 47, 97, 0, 0] Kn.ke_text w' (Kn.mem_0 rfl rfl)
  have p_kx := fun (w' : World) q hR => puts18_c Kn.kx Kn.kx_ok Kn.kx_few Kn.kx_check ⟨none, 0, some ⟨q, 0, none⟩, 2⟩ [] [5, 2, 47, 97, 0, 0, 0, 9, 0, 0, 0, 1, 1, 0, 0, 65, 0, 0, 0, 7, 0, 0, 0, 8] Kn.kx_text w' (Kn.mem_x rfl rfl hR)
  have p_kf := fun (w' : World) => puts18_c Kn.kf Kn.kf_ok Kn.kf_few Kn.kf_check noHd [] [3, 1, 0, 0, 0, 2, 0, 0, 0, 3] Kn.kf_text w' (Kn.mem_0 rfl rfl)
  have p_kg := fun (w' : World) => puts18_c Kn.kg Kn.kg_ok Kn.kg_few Kn.kg_check noHd [] [7, 0, 0, 0, 7, 0, 0, 0, 0, 0] Kn.kg_text w' (Kn.mem_0 rfl rfl)
  have p_fa := fun (w' : World) => fails18_c [1, 8] (by decide) 4 (by decide) Kn.fa_no w'
  have p_fb := fun (w' : World) => fails18_c [1, 3, 9] (by decide) 4 (by decide) Kn.fb_no w'
  have p_fc := fun (w' : World) => fails18_c [8, 1, 2, 47, 97, 1, 0, 0] (by decide) 4 (by decide) Kn.fc_no w'
  have p_fd := fun (w' : World) => fails18_c [4, 2, 47, 97, 2, 0, 2, 1, 1, 0, 2, 2] (by decide) 4 (by decide) Kn.fd_no w'
  have p_fe := fun (w' : World) => fails18_c [4, 2, 47, 97, 2, 0, 2, 1, 1, 0, 2] (by decide) 10 (by decide) Kn.fe_no w'
  have p_ff := fun (w' : World) => fails18_c [4, 1, 97, 0, 0] (by decide) 4 (by decide) Kn.ff_no w'
  have p_fg := fun (w' : World) => fails18_c [4, 1, 47, 0, 0] (by decide) 4 (by decide) Kn.fg_no w'
  have p_fh := fun (w' : World) => fails18_c [0] (by decide) 4 (by decide) Kn.fh_no w'
  have p_fi := fun (w' : World) => fails18_c [7, 0, 0, 0, 7, 8, 0, 0, 1, 1] (by decide) 4 (by decide) Kn.fi_no w'
  have p_ra := fun (w' : World) => refused18_c Kn.ra Kn.ra_ok Kn.ra_few Kn.ra_check noHd [] w' (Kn.mem_0 rfl rfl)
  have p_rb := fun (w' : World) q hR => refused18_c Kn.rb Kn.rb_ok Kn.rb_few Kn.rb_check ⟨none, 0, some ⟨q, 0, none⟩, 2⟩ [] w' (Kn.mem_x rfl rfl hR)
  have p_rc := fun (w' : World) q hR => refused18_c Kn.rc Kn.rc_ok Kn.rc_few Kn.rc_check ⟨none, 0, some ⟨q, 0, none⟩, 2⟩ [] w' (Kn.mem_x rfl rfl hR)
  have p_rd := fun (w' : World) => refused18_c Kn.rd Kn.rd_ok Kn.rd_few Kn.rd_check noHd [] w' (Kn.mem_0 rfl rfl)
  have p_re := fun (w' : World) => refused18_c Kn.re Kn.re_ok Kn.re_few Kn.re_check noHd [] w' (Kn.mem_0 rfl rfl)
  have p_rf := fun (w' : World) => refused18_c Kn.rf Kn.rf_ok Kn.rf_few Kn.rf_check noHd [] w' (Kn.mem_0 rfl rfl)
  have p_rg := fun (w' : World) => refused18_c Kn.rg Kn.rg_ok Kn.rg_few Kn.rg_check noHd [] w' (Kn.mem_0 rfl rfl)
  have p_rh := fun (w' : World) => refused18_c Kn.rh Kn.rh_ok Kn.rh_few Kn.rh_check noHd [] w' (Kn.mem_0 rfl rfl)
  have p_ri := fun (w' : World) => refused18_c Kn.ri Kn.ri_ok Kn.ri_few Kn.ri_check noHd [] w' (Kn.mem_0 rfl rfl)
  have p_rj := fun (w' : World) => refused18_c Kn.rj Kn.rj_ok Kn.rj_few Kn.rj_check noHd [] w' (Kn.mem_0 rfl rfl)
  have p_rk := fun (w' : World) => refused18_c Kn.rk Kn.rk_ok Kn.rk_few Kn.rk_check noHd [] w' (Kn.mem_0 rfl rfl)
  refine fc_i TB_ok Tryz.func7 rfl (by kernel_rfl) ?_
  have hS := Sf.refl w
  repeat ((conv => whnf); first | (apply q_i; focus (intro w1 hS; (conv => whnf); first | exact ⟨rfl, rfl⟩ | ((refine ld_f hS 0 rfl rfl ?_); (conv => whnf); exact ⟨rfl, rfl⟩) | ((refine ldA_f hS 0 rfl rfl ?_); (conv => whnf); exact ⟨rfl, rfl⟩) | ((refine fc_m (file18_c _ _ _ _ _) ?_; rintro v w3 ⟨rfl, hS'⟩; replace hS := hS.call0 hS'); (conv => whnf); exact ⟨rfl, rfl⟩) | ((refine fc_m (works18_c _) ?_; rintro v w3 ⟨rfl, hS'⟩; replace hS := hS.call0 hS'); (conv => whnf); exact ⟨rfl, rfl⟩) | ((refine fc_m (p_ka _) ?_; rintro v w3 ⟨rfl, hS'⟩; replace hS := hS.call0 hS'); (conv => whnf); exact ⟨rfl, rfl⟩) | ((refine fc_m (p_kb _) ?_; rintro v w3 ⟨rfl, hS'⟩; replace hS := hS.call0 hS'); (conv => whnf); exact ⟨rfl, rfl⟩) | ((refine fc_m (p_kc _) ?_; rintro v w3 ⟨rfl, hS'⟩; replace hS := hS.call0 hS'); (conv => whnf); exact ⟨rfl, rfl⟩) | ((refine fc_m (p_kd _) ?_; rintro v w3 ⟨rfl, hS'⟩; replace hS := hS.call0 hS'); (conv => whnf); exact ⟨rfl, rfl⟩) | ((refine fc_m (p_ke _) ?_; rintro v w3 ⟨rfl, hS'⟩; replace hS := hS.call0 hS'); (conv => whnf); exact ⟨rfl, rfl⟩) | ((refine fc_m (p_kf _) ?_; rintro v w3 ⟨rfl, hS'⟩; replace hS := hS.call0 hS'); (conv => whnf); exact ⟨rfl, rfl⟩) | ((refine fc_m (p_kg _) ?_; rintro v w3 ⟨rfl, hS'⟩; replace hS := hS.call0 hS'); (conv => whnf); exact ⟨rfl, rfl⟩) | ((refine fc_m (p_kx _ _ (hS.rd 0 rfl)) ?_; rintro v w3 ⟨rfl, hS'⟩; replace hS := hS.call0 hS'); (conv => whnf); exact ⟨rfl, rfl⟩) | ((refine fc_m (p_kx _ _ (hS.rd 1 rfl)) ?_; rintro v w3 ⟨rfl, hS'⟩; replace hS := hS.call0 hS'); (conv => whnf); exact ⟨rfl, rfl⟩) | ((refine fc_m (p_kx _ _ (hS.rd 2 rfl)) ?_; rintro v w3 ⟨rfl, hS'⟩; replace hS := hS.call0 hS'); (conv => whnf); exact ⟨rfl, rfl⟩) | ((refine fc_m (p_kx _ _ (hS.rd 3 rfl)) ?_; rintro v w3 ⟨rfl, hS'⟩; replace hS := hS.call0 hS'); (conv => whnf); exact ⟨rfl, rfl⟩) | ((refine fc_m (p_kx _ _ (hS.rd 4 rfl)) ?_; rintro v w3 ⟨rfl, hS'⟩; replace hS := hS.call0 hS'); (conv => whnf); exact ⟨rfl, rfl⟩))) | (refine nw_f hS ?_; intro b w1 hS) | (refine as_i hS ?_) | (refine as_i (hS.subs (List.nil_sublist _) (by repeat (first | exact List.Sublist.refl _ | apply List.Sublist.cons_cons | apply List.Sublist.cons))) ?_) | (refine as_i (hS.subs (List.Sublist.refl _) (by repeat (first | exact List.Sublist.refl _ | apply List.Sublist.cons_cons | apply List.Sublist.cons))) ?_) | (refine bar_f hS ?_) | (refine ld_f hS 0 rfl rfl ?_) | (refine ldA_f hS 0 rfl rfl ?_) | (refine stN_f hS 0 rfl (Nat.le_of_ble_eq_true rfl) rfl rfl ?_; (conv => whnf); intro w1 hS) | (refine stM_f hS 0 rfl (Nat.le_of_ble_eq_true rfl) rfl ?_; (conv => whnf); intro w1 hS) | (refine fc_m (file18_c _ _ _ _ _) ?_; rintro v w3 ⟨rfl, hS'⟩; replace hS := hS.call0 hS') | (refine fc_m (works18_c _) ?_; rintro v w3 ⟨rfl, hS'⟩; replace hS := hS.call0 hS') | (refine fc_m (p_ka _) ?_; rintro v w3 ⟨rfl, hS'⟩; replace hS := hS.call0 hS') | (refine fc_m (p_kb _) ?_; rintro v w3 ⟨rfl, hS'⟩; replace hS := hS.call0 hS') | (refine fc_m (p_kc _) ?_; rintro v w3 ⟨rfl, hS'⟩; replace hS := hS.call0 hS') | (refine fc_m (p_kd _) ?_; rintro v w3 ⟨rfl, hS'⟩; replace hS := hS.call0 hS') | (refine fc_m (p_ke _) ?_; rintro v w3 ⟨rfl, hS'⟩; replace hS := hS.call0 hS') | (refine fc_m (p_kf _) ?_; rintro v w3 ⟨rfl, hS'⟩; replace hS := hS.call0 hS') | (refine fc_m (p_kg _) ?_; rintro v w3 ⟨rfl, hS'⟩; replace hS := hS.call0 hS') | (refine fc_m (p_kx _ _ (hS.rd 0 rfl)) ?_; rintro v w3 ⟨rfl, hS'⟩; replace hS := hS.call0 hS') | (refine fc_m (p_kx _ _ (hS.rd 1 rfl)) ?_; rintro v w3 ⟨rfl, hS'⟩; replace hS := hS.call0 hS') | (refine fc_m (p_kx _ _ (hS.rd 2 rfl)) ?_; rintro v w3 ⟨rfl, hS'⟩; replace hS := hS.call0 hS') | (refine fc_m (p_kx _ _ (hS.rd 3 rfl)) ?_; rintro v w3 ⟨rfl, hS'⟩; replace hS := hS.call0 hS') | (refine fc_m (p_kx _ _ (hS.rd 4 rfl)) ?_; rintro v w3 ⟨rfl, hS'⟩; replace hS := hS.call0 hS') | (refine drawf TB_ok rfl (by kernel_rfl) (by kernel_rfl) hS (List.Sublist.refl _) (List.Sublist.refl _) ?_; intro w1 hS) | (refine br_t (by assumption) ?_) | (refine br_f (by assumption) ?_))
  refine fc_m (take18_c [] (by decide) _) ?_
  rintro v w1 ⟨A, c, rs, Lv, rfl, hrs, hK, hS'⟩
  rw [Kn.none_yes] at hrs
  rw [Kn.none_yes]
  obtain rfl : rs = [] := List.map_eq_nil_iff.1 hrs.symm
  replace hS := hS.callF hS'
  clear hK hrs
  repeat ((conv => whnf); first | (apply q_i; focus (intro w1 hS; (conv => whnf); first | exact ⟨rfl, rfl⟩ | ((refine ld_f hS 0 rfl rfl ?_); (conv => whnf); exact ⟨rfl, rfl⟩) | ((refine ld_f hS 1 rfl rfl ?_); (conv => whnf); exact ⟨rfl, rfl⟩) | ((refine ldA_f hS 0 rfl rfl ?_); (conv => whnf); exact ⟨rfl, rfl⟩) | ((refine ldA_f hS 1 rfl rfl ?_); (conv => whnf); exact ⟨rfl, rfl⟩) | ((refine fc_m (p_fa _) ?_; rintro v w3 ⟨rfl, hS'⟩; replace hS := hS.call0 hS'); (conv => whnf); exact ⟨rfl, rfl⟩) | ((refine fc_m (p_fb _) ?_; rintro v w3 ⟨rfl, hS'⟩; replace hS := hS.call0 hS'); (conv => whnf); exact ⟨rfl, rfl⟩) | ((refine fc_m (p_fc _) ?_; rintro v w3 ⟨rfl, hS'⟩; replace hS := hS.call0 hS'); (conv => whnf); exact ⟨rfl, rfl⟩) | ((refine fc_m (p_fd _) ?_; rintro v w3 ⟨rfl, hS'⟩; replace hS := hS.call0 hS'); (conv => whnf); exact ⟨rfl, rfl⟩) | ((refine fc_m (p_fe _) ?_; rintro v w3 ⟨rfl, hS'⟩; replace hS := hS.call0 hS'); (conv => whnf); exact ⟨rfl, rfl⟩) | ((refine fc_m (p_ff _) ?_; rintro v w3 ⟨rfl, hS'⟩; replace hS := hS.call0 hS'); (conv => whnf); exact ⟨rfl, rfl⟩) | ((refine fc_m (p_fg _) ?_; rintro v w3 ⟨rfl, hS'⟩; replace hS := hS.call0 hS'); (conv => whnf); exact ⟨rfl, rfl⟩) | ((refine fc_m (p_fh _) ?_; rintro v w3 ⟨rfl, hS'⟩; replace hS := hS.call0 hS'); (conv => whnf); exact ⟨rfl, rfl⟩) | ((refine fc_m (p_fi _) ?_; rintro v w3 ⟨rfl, hS'⟩; replace hS := hS.call0 hS'); (conv => whnf); exact ⟨rfl, rfl⟩))) | (refine nw_f hS ?_; intro b w1 hS) | (refine as_i hS ?_) | (refine as_i (hS.subs (List.nil_sublist _) (by repeat (first | exact List.Sublist.refl _ | apply List.Sublist.cons_cons | apply List.Sublist.cons))) ?_) | (refine as_i (hS.subs (List.Sublist.refl _) (by repeat (first | exact List.Sublist.refl _ | apply List.Sublist.cons_cons | apply List.Sublist.cons))) ?_) | (refine bar_f hS ?_) | (refine ld_f hS 0 rfl rfl ?_) | (refine ld_f hS 1 rfl rfl ?_) | (refine ldA_f hS 0 rfl rfl ?_) | (refine ldA_f hS 1 rfl rfl ?_) | (refine stN_f hS 0 rfl (Nat.le_of_ble_eq_true rfl) rfl rfl ?_; (conv => whnf); intro w1 hS) | (refine stN_f hS 1 rfl (Nat.le_of_ble_eq_true rfl) rfl rfl ?_; (conv => whnf); intro w1 hS) | (refine stM_f hS 0 rfl (Nat.le_of_ble_eq_true rfl) rfl ?_; (conv => whnf); intro w1 hS) | (refine stM_f hS 1 rfl (Nat.le_of_ble_eq_true rfl) rfl ?_; (conv => whnf); intro w1 hS) | (refine fc_m (p_fa _) ?_; rintro v w3 ⟨rfl, hS'⟩; replace hS := hS.call0 hS') | (refine fc_m (p_fb _) ?_; rintro v w3 ⟨rfl, hS'⟩; replace hS := hS.call0 hS') | (refine fc_m (p_fc _) ?_; rintro v w3 ⟨rfl, hS'⟩; replace hS := hS.call0 hS') | (refine fc_m (p_fd _) ?_; rintro v w3 ⟨rfl, hS'⟩; replace hS := hS.call0 hS') | (refine fc_m (p_fe _) ?_; rintro v w3 ⟨rfl, hS'⟩; replace hS := hS.call0 hS') | (refine fc_m (p_ff _) ?_; rintro v w3 ⟨rfl, hS'⟩; replace hS := hS.call0 hS') | (refine fc_m (p_fg _) ?_; rintro v w3 ⟨rfl, hS'⟩; replace hS := hS.call0 hS') | (refine fc_m (p_fh _) ?_; rintro v w3 ⟨rfl, hS'⟩; replace hS := hS.call0 hS') | (refine fc_m (p_fi _) ?_; rintro v w3 ⟨rfl, hS'⟩; replace hS := hS.call0 hS') | (refine drawf TB_ok rfl (by kernel_rfl) (by kernel_rfl) hS (List.Sublist.refl _) (List.Sublist.refl _) ?_; intro w1 hS) | (refine br_t (by assumption) ?_) | (refine br_f (by assumption) ?_))
  repeat ((conv => whnf); first | (apply q_i; focus (intro w1 hS; (conv => whnf); first | exact ⟨rfl, rfl⟩ | ((refine ld_f hS 0 rfl rfl ?_); (conv => whnf); exact ⟨rfl, rfl⟩) | ((refine ld_f hS 1 rfl rfl ?_); (conv => whnf); exact ⟨rfl, rfl⟩) | ((refine ld_f hS 2 rfl rfl ?_); (conv => whnf); exact ⟨rfl, rfl⟩) | ((refine ld_f hS 3 rfl rfl ?_); (conv => whnf); exact ⟨rfl, rfl⟩) | ((refine ld_f hS 4 rfl rfl ?_); (conv => whnf); exact ⟨rfl, rfl⟩) | ((refine ldA_f hS 0 rfl rfl ?_); (conv => whnf); exact ⟨rfl, rfl⟩) | ((refine ldA_f hS 1 rfl rfl ?_); (conv => whnf); exact ⟨rfl, rfl⟩) | ((refine ldA_f hS 2 rfl rfl ?_); (conv => whnf); exact ⟨rfl, rfl⟩) | ((refine ldA_f hS 3 rfl rfl ?_); (conv => whnf); exact ⟨rfl, rfl⟩) | ((refine ldA_f hS 4 rfl rfl ?_); (conv => whnf); exact ⟨rfl, rfl⟩) | ((refine fc_m (works18_c _) ?_; rintro v w3 ⟨rfl, hS'⟩; replace hS := hS.call0 hS'); (conv => whnf); exact ⟨rfl, rfl⟩) | ((refine fc_m (p_ra _) ?_; rintro v w3 ⟨rfl, hS'⟩; replace hS := hS.call0 hS'); (conv => whnf); exact ⟨rfl, rfl⟩) | ((refine fc_m (p_rb _ _ (hS.rd 0 rfl)) ?_; rintro v w3 ⟨rfl, hS'⟩; replace hS := hS.call0 hS'); (conv => whnf); exact ⟨rfl, rfl⟩) | ((refine fc_m (p_rb _ _ (hS.rd 1 rfl)) ?_; rintro v w3 ⟨rfl, hS'⟩; replace hS := hS.call0 hS'); (conv => whnf); exact ⟨rfl, rfl⟩) | ((refine fc_m (p_rb _ _ (hS.rd 2 rfl)) ?_; rintro v w3 ⟨rfl, hS'⟩; replace hS := hS.call0 hS'); (conv => whnf); exact ⟨rfl, rfl⟩) | ((refine fc_m (p_rb _ _ (hS.rd 3 rfl)) ?_; rintro v w3 ⟨rfl, hS'⟩; replace hS := hS.call0 hS'); (conv => whnf); exact ⟨rfl, rfl⟩) | ((refine fc_m (p_rb _ _ (hS.rd 4 rfl)) ?_; rintro v w3 ⟨rfl, hS'⟩; replace hS := hS.call0 hS'); (conv => whnf); exact ⟨rfl, rfl⟩) | ((refine fc_m (p_rb _ _ (hS.rd 5 rfl)) ?_; rintro v w3 ⟨rfl, hS'⟩; replace hS := hS.call0 hS'); (conv => whnf); exact ⟨rfl, rfl⟩) | ((refine fc_m (p_rc _ _ (hS.rd 0 rfl)) ?_; rintro v w3 ⟨rfl, hS'⟩; replace hS := hS.call0 hS'); (conv => whnf); exact ⟨rfl, rfl⟩) | ((refine fc_m (p_rc _ _ (hS.rd 1 rfl)) ?_; rintro v w3 ⟨rfl, hS'⟩; replace hS := hS.call0 hS'); (conv => whnf); exact ⟨rfl, rfl⟩) | ((refine fc_m (p_rc _ _ (hS.rd 2 rfl)) ?_; rintro v w3 ⟨rfl, hS'⟩; replace hS := hS.call0 hS'); (conv => whnf); exact ⟨rfl, rfl⟩) | ((refine fc_m (p_rc _ _ (hS.rd 3 rfl)) ?_; rintro v w3 ⟨rfl, hS'⟩; replace hS := hS.call0 hS'); (conv => whnf); exact ⟨rfl, rfl⟩) | ((refine fc_m (p_rc _ _ (hS.rd 4 rfl)) ?_; rintro v w3 ⟨rfl, hS'⟩; replace hS := hS.call0 hS'); (conv => whnf); exact ⟨rfl, rfl⟩) | ((refine fc_m (p_rc _ _ (hS.rd 5 rfl)) ?_; rintro v w3 ⟨rfl, hS'⟩; replace hS := hS.call0 hS'); (conv => whnf); exact ⟨rfl, rfl⟩) | ((refine fc_m (p_rd _) ?_; rintro v w3 ⟨rfl, hS'⟩; replace hS := hS.call0 hS'); (conv => whnf); exact ⟨rfl, rfl⟩) | ((refine fc_m (p_re _) ?_; rintro v w3 ⟨rfl, hS'⟩; replace hS := hS.call0 hS'); (conv => whnf); exact ⟨rfl, rfl⟩) | ((refine fc_m (p_rf _) ?_; rintro v w3 ⟨rfl, hS'⟩; replace hS := hS.call0 hS'); (conv => whnf); exact ⟨rfl, rfl⟩) | ((refine fc_m (p_rg _) ?_; rintro v w3 ⟨rfl, hS'⟩; replace hS := hS.call0 hS'); (conv => whnf); exact ⟨rfl, rfl⟩) | ((refine fc_m (p_rh _) ?_; rintro v w3 ⟨rfl, hS'⟩; replace hS := hS.call0 hS'); (conv => whnf); exact ⟨rfl, rfl⟩) | ((refine fc_m (p_ri _) ?_; rintro v w3 ⟨rfl, hS'⟩; replace hS := hS.call0 hS'); (conv => whnf); exact ⟨rfl, rfl⟩) | ((refine fc_m (p_rj _) ?_; rintro v w3 ⟨rfl, hS'⟩; replace hS := hS.call0 hS'); (conv => whnf); exact ⟨rfl, rfl⟩) | ((refine fc_m (p_rk _) ?_; rintro v w3 ⟨rfl, hS'⟩; replace hS := hS.call0 hS'); (conv => whnf); exact ⟨rfl, rfl⟩))) | (refine nw_f hS ?_; intro b w1 hS) | (refine as_i hS ?_) | (refine as_i (hS.subs (List.nil_sublist _) (by repeat (first | exact List.Sublist.refl _ | apply List.Sublist.cons_cons | apply List.Sublist.cons))) ?_) | (refine as_i (hS.subs (List.Sublist.refl _) (by repeat (first | exact List.Sublist.refl _ | apply List.Sublist.cons_cons | apply List.Sublist.cons))) ?_) | (refine bar_f hS ?_) | (refine ld_f hS 0 rfl rfl ?_) | (refine ld_f hS 1 rfl rfl ?_) | (refine ld_f hS 2 rfl rfl ?_) | (refine ld_f hS 3 rfl rfl ?_) | (refine ld_f hS 4 rfl rfl ?_) | (refine ldA_f hS 0 rfl rfl ?_) | (refine ldA_f hS 1 rfl rfl ?_) | (refine ldA_f hS 2 rfl rfl ?_) | (refine ldA_f hS 3 rfl rfl ?_) | (refine ldA_f hS 4 rfl rfl ?_) | (refine stN_f hS 0 rfl (Nat.le_of_ble_eq_true rfl) rfl rfl ?_; (conv => whnf); intro w1 hS) | (refine stN_f hS 1 rfl (Nat.le_of_ble_eq_true rfl) rfl rfl ?_; (conv => whnf); intro w1 hS) | (refine stN_f hS 2 rfl (Nat.le_of_ble_eq_true rfl) rfl rfl ?_; (conv => whnf); intro w1 hS) | (refine stN_f hS 3 rfl (Nat.le_of_ble_eq_true rfl) rfl rfl ?_; (conv => whnf); intro w1 hS) | (refine stN_f hS 4 rfl (Nat.le_of_ble_eq_true rfl) rfl rfl ?_; (conv => whnf); intro w1 hS) | (refine stM_f hS 0 rfl (Nat.le_of_ble_eq_true rfl) rfl ?_; (conv => whnf); intro w1 hS) | (refine stM_f hS 1 rfl (Nat.le_of_ble_eq_true rfl) rfl ?_; (conv => whnf); intro w1 hS) | (refine stM_f hS 2 rfl (Nat.le_of_ble_eq_true rfl) rfl ?_; (conv => whnf); intro w1 hS) | (refine stM_f hS 3 rfl (Nat.le_of_ble_eq_true rfl) rfl ?_; (conv => whnf); intro w1 hS) | (refine stM_f hS 4 rfl (Nat.le_of_ble_eq_true rfl) rfl ?_; (conv => whnf); intro w1 hS) | (refine fc_m (works18_c _) ?_; rintro v w3 ⟨rfl, hS'⟩; replace hS := hS.call0 hS') | (refine fc_m (p_ra _) ?_; rintro v w3 ⟨rfl, hS'⟩; replace hS := hS.call0 hS') | (refine fc_m (p_rb _ _ (hS.rd 0 rfl)) ?_; rintro v w3 ⟨rfl, hS'⟩; replace hS := hS.call0 hS') | (refine fc_m (p_rb _ _ (hS.rd 1 rfl)) ?_; rintro v w3 ⟨rfl, hS'⟩; replace hS := hS.call0 hS') | (refine fc_m (p_rb _ _ (hS.rd 2 rfl)) ?_; rintro v w3 ⟨rfl, hS'⟩; replace hS := hS.call0 hS') | (refine fc_m (p_rb _ _ (hS.rd 3 rfl)) ?_; rintro v w3 ⟨rfl, hS'⟩; replace hS := hS.call0 hS') | (refine fc_m (p_rb _ _ (hS.rd 4 rfl)) ?_; rintro v w3 ⟨rfl, hS'⟩; replace hS := hS.call0 hS') | (refine fc_m (p_rb _ _ (hS.rd 5 rfl)) ?_; rintro v w3 ⟨rfl, hS'⟩; replace hS := hS.call0 hS') | (refine fc_m (p_rc _ _ (hS.rd 0 rfl)) ?_; rintro v w3 ⟨rfl, hS'⟩; replace hS := hS.call0 hS') | (refine fc_m (p_rc _ _ (hS.rd 1 rfl)) ?_; rintro v w3 ⟨rfl, hS'⟩; replace hS := hS.call0 hS') | (refine fc_m (p_rc _ _ (hS.rd 2 rfl)) ?_; rintro v w3 ⟨rfl, hS'⟩; replace hS := hS.call0 hS') | (refine fc_m (p_rc _ _ (hS.rd 3 rfl)) ?_; rintro v w3 ⟨rfl, hS'⟩; replace hS := hS.call0 hS') | (refine fc_m (p_rc _ _ (hS.rd 4 rfl)) ?_; rintro v w3 ⟨rfl, hS'⟩; replace hS := hS.call0 hS') | (refine fc_m (p_rc _ _ (hS.rd 5 rfl)) ?_; rintro v w3 ⟨rfl, hS'⟩; replace hS := hS.call0 hS') | (refine fc_m (p_rd _) ?_; rintro v w3 ⟨rfl, hS'⟩; replace hS := hS.call0 hS') | (refine fc_m (p_re _) ?_; rintro v w3 ⟨rfl, hS'⟩; replace hS := hS.call0 hS') | (refine fc_m (p_rf _) ?_; rintro v w3 ⟨rfl, hS'⟩; replace hS := hS.call0 hS') | (refine fc_m (p_rg _) ?_; rintro v w3 ⟨rfl, hS'⟩; replace hS := hS.call0 hS') | (refine fc_m (p_rh _) ?_; rintro v w3 ⟨rfl, hS'⟩; replace hS := hS.call0 hS') | (refine fc_m (p_ri _) ?_; rintro v w3 ⟨rfl, hS'⟩; replace hS := hS.call0 hS') | (refine fc_m (p_rj _) ?_; rintro v w3 ⟨rfl, hS'⟩; replace hS := hS.call0 hS') | (refine fc_m (p_rk _) ?_; rintro v w3 ⟨rfl, hS'⟩; replace hS := hS.call0 hS') | (refine drawf TB_ok rfl (by kernel_rfl) (by kernel_rfl) hS (List.Sublist.refl _) (List.Sublist.refl _) ?_; intro w1 hS) | (refine br_t (by assumption) ?_) | (refine br_f (by assumption) ?_))
  exact ⟨rfl, hS.nil⟩
end Go.RV

set_option linter.unusedVariables false
set_option maxRecDepth 20000
namespace Go.RV
open Go Go.Proofs Go.ChangeShapes Go.WideShapes Go.RowKit
instance : Inhabited Sm := ⟨⟨⟨0, 0, zeroVa⟩, none, 0⟩⟩
section
variable {W w : World} {r : Reach} {b0 : Nat} {v : Value}
variable {H : Type} {en : TypeId × Value → H} {base : Nat} {spare : Nat → Bool} {held : Bool} {d : DataW H} {ps : List MemPlace}
end
end Go.RV

