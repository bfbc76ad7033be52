/- Contracts of functions of chapter 4: Parse, Seen. Conditions: none. -/
import Derived.Test.YtdlmjbnggahpjaaDoorPa5
set_option maxRecDepth 20000
set_option linter.unusedVariables false
set_option linter.unusedSimpArgs false
namespace Go.RV
open Go Go.Proofs Go.RowKit

def plainL : Lst := fun s => (s, 0)
theorem parse1_c (s : List UInt8) (w : World) : Fc Tryd.prog 40 [.string (strY s)] w fun v w' => v = .tuple #[.string (strY s), .int .i64 0] ∧ St [] w w' [] := by
  refine fc_i TB_ok Tryd.func40 rfl (by kernel_rfl) ?_
  have hS := Sf.refl w
  repeat ((conv => whnf); first | (apply q_i; focus (intro w1 hS; (conv => whnf); first | exact ⟨rfl, rfl⟩)) | (refine nw_f hS ?_; intro b w1 hS) | (refine as_i hS ?_) | (refine as_i (hS.subs (List.nil_sublist _) (by repeat (first | exact List.Sublist.refl _ | apply List.Sublist.cons_cons | apply List.Sublist.cons))) ?_) | (refine as_i (hS.subs (List.Sublist.refl _) (by repeat (first | exact List.Sublist.refl _ | apply List.Sublist.cons_cons | apply List.Sublist.cons))) ?_) | (refine bar_f hS ?_) | (refine drawf TB_ok rfl (by kernel_rfl) (by kernel_rfl) hS (List.Sublist.refl _) (List.Sublist.refl _) ?_; intro w1 hS) | (refine br_t (by assumption) ?_) | (refine br_f (by assumption) ?_))
  exact ⟨rfl, hS.nil⟩
def parseT (p : List UInt8) : List (List UInt8) × Int × Option (List UInt8) := readT 36 plainL p
theorem parse_c (p : List UInt8) (hp : p.length ≤ 4611686018427387904) (w : World) : Fc Tryd.prog 11 [.string (strY p)] w fun v w' => ∃ A c Lv, v = .tuple #[.slice A (parseT p).1.length c, .int .i64 (parseT p).2.1] ∧
    Sl 9 1 (.slice A (parseT p).1.length c) (parseT p).1.length (flat encT (parseT p).1) Lv ∧ St [] w w' Lv := by
  refine fc_i TB_ok Tryd.func11 rfl (by kernel_rfl) ?_
  have hS := Sf.refl w
  have hr := fun w => read_c p hp 36 (by decide) (.func 40) #[] #[] [] (fun _ => []) plainL w (St.refl w) (fun s w' _ _ => Cv.of_fc ((parse1_c s w').mono fun v w'' h => h))
  repeat ((conv => whnf); first | (apply q_i; focus (intro w1 hS; (conv => whnf); first | exact ⟨rfl, rfl⟩)) | (refine nw_f hS ?_; intro b w1 hS) | (refine as_i hS ?_) | (refine as_i (hS.subs (List.nil_sublist _) (by repeat (first | exact List.Sublist.refl _ | apply List.Sublist.cons_cons | apply List.Sublist.cons))) ?_) | (refine as_i (hS.subs (List.Sublist.refl _) (by repeat (first | exact List.Sublist.refl _ | apply List.Sublist.cons_cons | apply List.Sublist.cons))) ?_) | (refine bar_f hS ?_) | (refine drawf TB_ok rfl (by kernel_rfl) (by kernel_rfl) hS (List.Sublist.refl _) (List.Sublist.refl _) ?_; intro w1 hS) | (refine br_t (by assumption) ?_) | (refine br_f (by assumption) ?_))
  refine fc_m (hr _) ?_
  rintro v w1 ⟨A, c, Lv, rfl, hv, hS'⟩
  have e : cbL [] (fun _ => []) (readT 36 plainL p).2.2 = [] := by cases (readT 36 plainL p).2.2 <;> rfl
  rw [e] at hS'
  replace hS := hS.callF hS'
  repeat ((conv => whnf); first | (apply q_i; focus (intro w1 hS; (conv => whnf); first | exact ⟨rfl, rfl⟩)) | (refine nw_f hS ?_; intro b w1 hS) | (refine as_i hS ?_) | (refine as_i (hS.subs (List.nil_sublist _) (by repeat (first | exact List.Sublist.refl _ | apply List.Sublist.cons_cons | apply List.Sublist.cons))) ?_) | (refine as_i (hS.subs (List.Sublist.refl _) (by repeat (first | exact List.Sublist.refl _ | apply List.Sublist.cons_cons | apply List.Sublist.cons))) ?_) | (refine bar_f hS ?_) | (refine drawf TB_ok rfl (by kernel_rfl) (by kernel_rfl) hS (List.Sublist.refl _) (List.Sublist.refl _) ?_; intro w1 hS) | (refine br_t (by assumption) ?_) | (refine br_f (by assumption) ?_))
  exact ⟨A, c, Lv, rfl, hv, by simpa using hS.fr (List.sublist_append_left _ _)⟩
/-- what the last piece of a seen path tells: the name, and why it is none -/
def seenL : Lst := fun s => if (cutP 126 s).2.2 = false then (s, 0) else if (splitT s).2.2 = false then ((cutP 126 s).1, 4) else ((cutP 126 s).1, 0)
/-- and the dot, and whether there is one -/
def seenD (s : List UInt8) : (Int × Int) × Bool := if (cutP 126 s).2.2 = false then ((0, 0), false) else (splitT s).2
def dotO (d : Int × Int) : Obj := .cells #[.int .u8 d.1, .int .u32 d.2] 31 (0, 0)
def isO (b : Bool) : Obj := .cells #[.bool b] 4 (0, 0)
theorem St.open {Lx : LM} {w w2 : World} (h0 : St (keys Lx) w w Lx) (h : St [] w w2 []) : St (keys Lx) w w2 Lx := h0.call0 h
theorem seen1_c (s : List UInt8) (hs : s.length ≤ 44) (b3 b4 : Nat) (w : World) (he : Errs w) (ht : Tab10 w) (h0 : St (keys [(b4, isO false), (b3, dotO (0, 0))]) w w [(b4, isO false), (b3, dotO (0, 0))]) :
    Fc Tryd.prog 42 [.string (strY s), .pointer (some ⟨b3, 0, none⟩), .pointer (some ⟨b4, 0, none⟩)] w fun v w' => v = .tuple #[.string (strY (seenL s).1), .int .i64 (seenL s).2] ∧
      St (keys [(b4, isO false), (b3, dotO (0, 0))]) w w' [(b4, isO (seenD s).2), (b3, dotO (seenD s).1)] := by
  refine fc_i TB_ok Tryd.func42 rfl (by kernel_rfl) ?_
  have hS := Sf.refl w
  unfold seenL seenD
  have hc := fun w => scut_c s 126 (by omega) w
  cases hf : (cutP 126 s).2.2 with
  | false =>
    rw [hf] at hc
    repeat ((conv => whnf); first | (apply q_i; focus (intro w1 hS; (conv => whnf); first | exact ⟨rfl, rfl⟩ | ((refine fc_m (hc _) ?_; rintro v w3 ⟨rfl, hS'⟩; replace hS := hS.call0 hS'); (conv => whnf); exact ⟨rfl, rfl⟩))) | (refine nw_f hS ?_; intro b w1 hS) | (refine as_i hS ?_) | (refine as_i (hS.subs (List.nil_sublist _) (by repeat (first | exact List.Sublist.refl _ | apply List.Sublist.cons_cons | apply List.Sublist.cons))) ?_) | (refine as_i (hS.subs (List.Sublist.refl _) (by repeat (first | exact List.Sublist.refl _ | apply List.Sublist.cons_cons | apply List.Sublist.cons))) ?_) | (refine bar_f hS ?_) | (refine fc_m (hc _) ?_; rintro v w3 ⟨rfl, hS'⟩; replace hS := hS.call0 hS') | (refine drawf TB_ok rfl (by kernel_rfl) (by kernel_rfl) hS (List.Sublist.refl _) (List.Sublist.refl _) ?_; intro w1 hS) | (refine br_t (by assumption) ?_) | (refine br_f (by assumption) ?_))
    exact ⟨rfl, h0.open hS.nil⟩
  | true =>
    rw [hf] at hc
    repeat ((conv => whnf); first | (apply q_i; focus (intro w1 hS; (conv => whnf); first | exact ⟨rfl, rfl⟩ | ((refine fc_m (hc _) ?_; rintro v w3 ⟨rfl, hS'⟩; replace hS := hS.call0 hS'); (conv => whnf); exact ⟨rfl, rfl⟩))) | (refine nw_f hS ?_; intro b w1 hS) | (refine as_i hS ?_) | (refine as_i (hS.subs (List.nil_sublist _) (by repeat (first | exact List.Sublist.refl _ | apply List.Sublist.cons_cons | apply List.Sublist.cons))) ?_) | (refine as_i (hS.subs (List.Sublist.refl _) (by repeat (first | exact List.Sublist.refl _ | apply List.Sublist.cons_cons | apply List.Sublist.cons))) ?_) | (refine bar_f hS ?_) | (refine fc_m (hc _) ?_; rintro v w3 ⟨rfl, hS'⟩; replace hS := hS.call0 hS') | (refine drawf TB_ok rfl (by kernel_rfl) (by kernel_rfl) hS (List.Sublist.refl _) (List.Sublist.refl _) ?_; intro w1 hS) | (refine br_t (by assumption) ?_) | (refine br_f (by assumption) ?_))
    refine fc_m (split_c s (by omega) _ (he.below hS.nil) (ht.below hS.nil)) ?_
    rintro v w1 ⟨rfl, hS'⟩
    replace hS := hS.call0 hS'
    have hS2 : Sf (keys [(b4, isO false), (b3, dotO (0, 0))]) w w1 [] [(b4, .cells #[.bool false] 4 (0, 0)), (b3, .cells #[.int .u8 0, .int .u32 0] 31 (0, 0))] := (h0.open hS.nil).sf
    clear hS
    generalize splitT s = Z at *
    obtain ⟨nm, ⟨r, n⟩, is⟩ := Z
    have hS := hS2
    cases is with
    | false =>
      repeat ((conv => whnf); first | (apply q_i; focus (intro w1 hS; (conv => whnf); first | exact ⟨rfl, rfl⟩ | ((refine ld_f hS 0 rfl rfl ?_); (conv => whnf); exact ⟨rfl, rfl⟩) | ((refine ld_f hS 1 rfl rfl ?_); (conv => whnf); exact ⟨rfl, rfl⟩) | ((refine ldA_f hS 0 rfl rfl ?_); (conv => whnf); exact ⟨rfl, rfl⟩) | ((refine ldA_f hS 1 rfl rfl ?_); (conv => whnf); exact ⟨rfl, rfl⟩))) | (refine nw_f hS ?_; intro b w1 hS) | (refine as_i hS ?_) | (refine as_i (hS.subs (List.nil_sublist _) (by repeat (first | exact List.Sublist.refl _ | apply List.Sublist.cons_cons | apply List.Sublist.cons))) ?_) | (refine as_i (hS.subs (List.Sublist.refl _) (by repeat (first | exact List.Sublist.refl _ | apply List.Sublist.cons_cons | apply List.Sublist.cons))) ?_) | (refine bar_f hS ?_) | (refine ld_f hS 0 rfl rfl ?_) | (refine ld_f hS 1 rfl rfl ?_) | (refine ldA_f hS 0 rfl rfl ?_) | (refine ldA_f hS 1 rfl rfl ?_) | (refine stN_f hS 0 rfl (Nat.le_of_ble_eq_true rfl) rfl rfl ?_; (conv => whnf); intro w1 hS) | (refine stN_f hS 1 rfl (Nat.le_of_ble_eq_true rfl) rfl rfl ?_; (conv => whnf); intro w1 hS) | (refine stM_f hS 0 rfl (Nat.le_of_ble_eq_true rfl) rfl ?_; (conv => whnf); intro w1 hS) | (refine stM_f hS 1 rfl (Nat.le_of_ble_eq_true rfl) rfl ?_; (conv => whnf); intro w1 hS) | (refine drawf TB_ok rfl (by kernel_rfl) (by kernel_rfl) hS (List.Sublist.refl _) (List.Sublist.refl _) ?_; intro w1 hS) | (refine br_t (by assumption) ?_) | (refine br_f (by assumption) ?_))
      exact ⟨rfl, hS.sub (List.Sublist.refl _)⟩
    | true =>
      repeat ((conv => whnf); first | (apply q_i; focus (intro w1 hS; (conv => whnf); first | exact ⟨rfl, rfl⟩ | ((refine ld_f hS 0 rfl rfl ?_); (conv => whnf); exact ⟨rfl, rfl⟩) | ((refine ld_f hS 1 rfl rfl ?_); (conv => whnf); exact ⟨rfl, rfl⟩) | ((refine ldA_f hS 0 rfl rfl ?_); (conv => whnf); exact ⟨rfl, rfl⟩) | ((refine ldA_f hS 1 rfl rfl ?_); (conv => whnf); exact ⟨rfl, rfl⟩))) | (refine nw_f hS ?_; intro b w1 hS) | (refine as_i hS ?_) | (refine as_i (hS.subs (List.nil_sublist _) (by repeat (first | exact List.Sublist.refl _ | apply List.Sublist.cons_cons | apply List.Sublist.cons))) ?_) | (refine as_i (hS.subs (List.Sublist.refl _) (by repeat (first | exact List.Sublist.refl _ | apply List.Sublist.cons_cons | apply List.Sublist.cons))) ?_) | (refine bar_f hS ?_) | (refine ld_f hS 0 rfl rfl ?_) | (refine ld_f hS 1 rfl rfl ?_) | (refine ldA_f hS 0 rfl rfl ?_) | (refine ldA_f hS 1 rfl rfl ?_) | (refine stN_f hS 0 rfl (Nat.le_of_ble_eq_true rfl) rfl rfl ?_; (conv => whnf); intro w1 hS) | (refine stN_f hS 1 rfl (Nat.le_of_ble_eq_true rfl) rfl rfl ?_; (conv => whnf); intro w1 hS) | (refine stM_f hS 0 rfl (Nat.le_of_ble_eq_true rfl) rfl ?_; (conv => whnf); intro w1 hS) | (refine stM_f hS 1 rfl (Nat.le_of_ble_eq_true rfl) rfl ?_; (conv => whnf); intro w1 hS) | (refine drawf TB_ok rfl (by kernel_rfl) (by kernel_rfl) hS (List.Sublist.refl _) (List.Sublist.refl _) ?_; intro w1 hS) | (refine br_t (by assumption) ?_) | (refine br_f (by assumption) ?_))
      exact ⟨rfl, hS.sub (List.Sublist.refl _)⟩
def seenX : Option (List UInt8) → (Int × Int) × Bool
  | none => ((0, 0), false)
  | some s => seenD s
def seenT (p : List UInt8) : List (List UInt8) × (Int × Int) × Bool × Int :=
  if (readT 44 seenL p).2.1 ≠ 0 then ([], (0, 0), false, (readT 44 seenL p).2.1) else ((readT 44 seenL p).1, (seenX (readT 44 seenL p).2.2).1, (seenX (readT 44 seenL p).2.2).2, 0)
theorem seenRead_c (p : List UInt8) (hp : p.length ≤ 4611686018427387904) (b3 b4 : Nat) (w0 w : World) (he : Errs w0) (ht : Tab10 w0) (hS : Sf [] w0 w [] [(b4, isO false), (b3, dotO (0, 0))]) :
    Fc Tryd.prog 39 [.string (strY p), .int .i64 44, .func (.func 42) #[] #[.pointer (some ⟨b3, 0, none⟩), .pointer (some ⟨b4, 0, none⟩)]] w fun v w' => ∃ A c Lv, v = .tuple #[.slice A (readT 44 seenL p).1.length c, .int .i64 (readT 44 seenL p).2.1] ∧
      Sl 9 1 (.slice A (readT 44 seenL p).1.length c) (readT 44 seenL p).1.length (flat encT (readT 44 seenL p).1) Lv ∧ Sf [] w0 w' Lv [(b4, isO (seenX (readT 44 seenL p).2.2).2), (b3, dotO (seenX (readT 44 seenL p).2.2).1)] := by
  have h0 : St (keys [(b4, isO false), (b3, dotO (0, 0))]) w w [(b4, isO false), (b3, dotO (0, 0))] := hS.ownL (List.Sublist.refl _)
  have hP : Sf [] w0 w ([(b4, isO false), (b3, dotO (0, 0))] ++ []) [] := ⟨by simpa using hS.st⟩
  refine (read_c p hp 44 (by decide) (.func 42) #[] #[.pointer (some ⟨b3, 0, none⟩), .pointer (some ⟨b4, 0, none⟩)] [(b4, isO false), (b3, dotO (0, 0))] (fun s => [(b4, isO (seenD s).2), (b3, dotO (seenD s).1)]) seenL w h0 ?_).mono ?_
  · intro s w' hs h'
    have hq := (hP.callW h').nil
    exact Cv.of_fc (seen1_c s hs b3 b4 w' (he.below hq) (ht.below hq) (h'.own' (List.Sublist.refl _)))
  · rintro v w' ⟨A, c, Lv, rfl, hv, h'⟩
    refine ⟨A, c, Lv, rfl, hv, ?_⟩
    have e : cbL [(b4, isO false), (b3, dotO (0, 0))] (fun s => [(b4, isO (seenD s).2), (b3, dotO (seenD s).1)]) (readT 44 seenL p).2.2 = [(b4, isO (seenX (readT 44 seenL p).2.2).2), (b3, dotO (seenX (readT 44 seenL p).2.2).1)] := by
      cases (readT 44 seenL p).2.2 <;> rfl
    rw [e] at h'
    have hq := hP.callW h'
    exact ⟨by simpa using hq.st⟩
theorem seen_c (p : List UInt8) (hp : p.length ≤ 4611686018427387904) (w : World) (he : Errs w) (ht : Tab10 w) : Fc Tryd.prog 13 [.string (strY p)] w fun v w' => ∃ A c Lv, v = .tuple #[.slice A (seenT p).1.length c, dotV (seenT p).2.1.1 (seenT p).2.1.2, .bool (seenT p).2.2.1, .int .i64 (seenT p).2.2.2] ∧
    Sl 9 1 (.slice A (seenT p).1.length c) (seenT p).1.length (flat encT (seenT p).1) Lv ∧ St [] w w' Lv := by
  refine fc_i TB_ok Tryd.func13 rfl (by kernel_rfl) ?_
  have hS := Sf.refl w
  repeat ((conv => whnf); first | (apply q_i; focus (intro w1 hS; (conv => whnf); first | exact ⟨rfl, rfl⟩ | ((refine ld_f hS 0 rfl rfl ?_); (conv => whnf); exact ⟨rfl, rfl⟩) | ((refine ld_f hS 1 rfl rfl ?_); (conv => whnf); exact ⟨rfl, rfl⟩) | ((refine ldA_f hS 0 rfl rfl ?_); (conv => whnf); exact ⟨rfl, rfl⟩) | ((refine ldA_f hS 1 rfl rfl ?_); (conv => whnf); exact ⟨rfl, rfl⟩))) | (refine nw_f hS ?_; intro b w1 hS) | (refine as_i hS ?_) | (refine as_i (hS.subs (List.nil_sublist _) (by repeat (first | exact List.Sublist.refl _ | apply List.Sublist.cons_cons | apply List.Sublist.cons))) ?_) | (refine as_i (hS.subs (List.Sublist.refl _) (by repeat (first | exact List.Sublist.refl _ | apply List.Sublist.cons_cons | apply List.Sublist.cons))) ?_) | (refine bar_f hS ?_) | (refine ld_f hS 0 rfl rfl ?_) | (refine ld_f hS 1 rfl rfl ?_) | (refine ldA_f hS 0 rfl rfl ?_) | (refine ldA_f hS 1 rfl rfl ?_) | (refine stN_f hS 0 rfl (Nat.le_of_ble_eq_true rfl) rfl rfl ?_; (conv => whnf); intro w1 hS) | (refine stN_f hS 1 rfl (Nat.le_of_ble_eq_true rfl) rfl rfl ?_; (conv => whnf); intro w1 hS) | (refine stM_f hS 0 rfl (Nat.le_of_ble_eq_true rfl) rfl ?_; (conv => whnf); intro w1 hS) | (refine stM_f hS 1 rfl (Nat.le_of_ble_eq_true rfl) rfl ?_; (conv => whnf); intro w1 hS) | (refine drawf TB_ok rfl (by kernel_rfl) (by kernel_rfl) hS (List.Sublist.refl _) (List.Sublist.refl _) ?_; intro w1 hS) | (refine br_t (by assumption) ?_) | (refine br_f (by assumption) ?_))
  refine fc_m (seenRead_c p hp _ _ w _ he ht hS) ?_
  rintro v w2 ⟨A, c, Lv, rfl, hv, hS2⟩
  clear hS
  unfold seenT
  generalize readT 44 seenL p = t at *
  obtain ⟨l, e, o⟩ := t
  simp only at hv hS2 ⊢
  generalize seenX o = z at *
  obtain ⟨⟨r, n⟩, is⟩ := z
  have hS : Sf [] w w2 Lv [(_, .cells #[.bool is] 4 (0, 0)), (_, .cells #[.int .u8 r, .int .u32 n] 31 (0, 0))] := hS2
  by_cases h : e = 0
  · have g : (e != 0) = false := by simp [h]
    rw [if_neg (by simpa using h)]
    repeat ((conv => whnf); first | (apply q_i; focus (intro w1 hS; (conv => whnf); first | exact ⟨rfl, rfl⟩ | ((refine ld_f hS 0 rfl rfl ?_); (conv => whnf); exact ⟨rfl, rfl⟩) | ((refine ld_f hS 1 rfl rfl ?_); (conv => whnf); exact ⟨rfl, rfl⟩) | ((refine ldA_f hS 0 rfl rfl ?_); (conv => whnf); exact ⟨rfl, rfl⟩) | ((refine ldA_f hS 1 rfl rfl ?_); (conv => whnf); exact ⟨rfl, rfl⟩))) | (refine nw_f hS ?_; intro b w1 hS) | (refine as_i hS ?_) | (refine as_i (hS.subs (List.nil_sublist _) (by repeat (first | exact List.Sublist.refl _ | apply List.Sublist.cons_cons | apply List.Sublist.cons))) ?_) | (refine as_i (hS.subs (List.Sublist.refl _) (by repeat (first | exact List.Sublist.refl _ | apply List.Sublist.cons_cons | apply List.Sublist.cons))) ?_) | (refine bar_f hS ?_) | (refine ld_f hS 0 rfl rfl ?_) | (refine ld_f hS 1 rfl rfl ?_) | (refine ldA_f hS 0 rfl rfl ?_) | (refine ldA_f hS 1 rfl rfl ?_) | (refine stN_f hS 0 rfl (Nat.le_of_ble_eq_true rfl) rfl rfl ?_; (conv => whnf); intro w1 hS) | (refine stN_f hS 1 rfl (Nat.le_of_ble_eq_true rfl) rfl rfl ?_; (conv => whnf); intro w1 hS) | (refine stM_f hS 0 rfl (Nat.le_of_ble_eq_true rfl) rfl ?_; (conv => whnf); intro w1 hS) | (refine stM_f hS 1 rfl (Nat.le_of_ble_eq_true rfl) rfl ?_; (conv => whnf); intro w1 hS) | (refine br_t (by assumption) ?_) | (refine br_f (by assumption) ?_))
    refine drawf (Ls := [_, _]) TB_ok rfl (by kernel_rfl) (by kernel_rfl) hS (List.Sublist.refl _) (List.Sublist.refl _) ?_; intro w1 hS
    repeat' ((conv => whnf); first | (refine And.intro ?_ ?_) | (apply q_i; focus (intro w1 hS; (conv => whnf); first | exact ⟨rfl, rfl⟩ | ((refine ld_f hS 0 rfl rfl ?_); (conv => whnf); exact ⟨rfl, rfl⟩) | ((refine ld_f hS 1 rfl rfl ?_); (conv => whnf); exact ⟨rfl, rfl⟩) | ((refine ldA_f hS 0 rfl rfl ?_); (conv => whnf); exact ⟨rfl, rfl⟩) | ((refine ldA_f hS 1 rfl rfl ?_); (conv => whnf); exact ⟨rfl, rfl⟩))) | (refine nw_f hS ?_; intro b w1 hS) | (refine as_i hS ?_) | (refine as_i (hS.subs (List.nil_sublist _) (by repeat (first | exact List.Sublist.refl _ | apply List.Sublist.cons_cons | apply List.Sublist.cons))) ?_) | (refine as_i (hS.subs (List.Sublist.refl _) (by repeat (first | exact List.Sublist.refl _ | apply List.Sublist.cons_cons | apply List.Sublist.cons))) ?_) | (refine bar_f hS ?_) | (refine ld_f hS 0 rfl rfl ?_) | (refine ld_f hS 1 rfl rfl ?_) | (refine ldA_f hS 0 rfl rfl ?_) | (refine ldA_f hS 1 rfl rfl ?_) | (refine stN_f hS 0 rfl (Nat.le_of_ble_eq_true rfl) rfl rfl ?_; (conv => whnf); intro w1 hS) | (refine stN_f hS 1 rfl (Nat.le_of_ble_eq_true rfl) rfl rfl ?_; (conv => whnf); intro w1 hS) | (refine stM_f hS 0 rfl (Nat.le_of_ble_eq_true rfl) rfl ?_; (conv => whnf); intro w1 hS) | (refine stM_f hS 1 rfl (Nat.le_of_ble_eq_true rfl) rfl ?_; (conv => whnf); intro w1 hS) | (refine drawf TB_ok rfl (by kernel_rfl) (by kernel_rfl) hS (List.Sublist.refl _) (List.Sublist.refl _) ?_; intro w1 hS) | (refine br_t (by assumption) ?_) | (refine br_f (by assumption) ?_))
    all_goals exact ⟨A, c, Lv, rfl, hv, hS.fr (List.Sublist.refl _)⟩
  · have g : (e != 0) = true := by simp [h]
    rw [if_pos h]
    repeat ((conv => whnf); first | (apply q_i; focus (intro w1 hS; (conv => whnf); first | exact ⟨rfl, rfl⟩ | ((refine ld_f hS 0 rfl rfl ?_); (conv => whnf); exact ⟨rfl, rfl⟩) | ((refine ld_f hS 1 rfl rfl ?_); (conv => whnf); exact ⟨rfl, rfl⟩) | ((refine ldA_f hS 0 rfl rfl ?_); (conv => whnf); exact ⟨rfl, rfl⟩) | ((refine ldA_f hS 1 rfl rfl ?_); (conv => whnf); exact ⟨rfl, rfl⟩))) | (refine nw_f hS ?_; intro b w1 hS) | (refine as_i hS ?_) | (refine as_i (hS.subs (List.nil_sublist _) (by repeat (first | exact List.Sublist.refl _ | apply List.Sublist.cons_cons | apply List.Sublist.cons))) ?_) | (refine as_i (hS.subs (List.Sublist.refl _) (by repeat (first | exact List.Sublist.refl _ | apply List.Sublist.cons_cons | apply List.Sublist.cons))) ?_) | (refine bar_f hS ?_) | (refine ld_f hS 0 rfl rfl ?_) | (refine ld_f hS 1 rfl rfl ?_) | (refine ldA_f hS 0 rfl rfl ?_) | (refine ldA_f hS 1 rfl rfl ?_) | (refine stN_f hS 0 rfl (Nat.le_of_ble_eq_true rfl) rfl rfl ?_; (conv => whnf); intro w1 hS) | (refine stN_f hS 1 rfl (Nat.le_of_ble_eq_true rfl) rfl rfl ?_; (conv => whnf); intro w1 hS) | (refine stM_f hS 0 rfl (Nat.le_of_ble_eq_true rfl) rfl ?_; (conv => whnf); intro w1 hS) | (refine stM_f hS 1 rfl (Nat.le_of_ble_eq_true rfl) rfl ?_; (conv => whnf); intro w1 hS) | (refine drawf TB_ok rfl (by kernel_rfl) (by kernel_rfl) hS (List.Sublist.refl _) (List.Sublist.refl _) ?_; intro w1 hS) | (refine br_t (by assumption) ?_) | (refine br_f (by assumption) ?_))
    exact ⟨none, 0, [], rfl, .nil, hS.nil⟩
end Go.RV
