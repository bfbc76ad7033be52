/- Contracts of functions of chapter 7: chunks. Conditions: none. -/
import Derived.Test.YtnhlpmnehdackaaGreatP2
set_option maxRecDepth 20000
set_option linter.unusedVariables false
set_option linter.unusedSimpArgs false
namespace Go.RV
open Go Go.Proofs

def encT (l : List UInt8) : List Value := [.string (strY l)]
theorem encT_len (l : List UInt8) : (encT l).length = 1 := rfl
theorem elT : ElemOk Tryz.prog TB 120 9 1 16 := ⟨rfl, ⟨_, _, inf9, rfl, rfl, rfl, rfl⟩, by decide⟩
def chkF : Nat → List UInt8 → List (List UInt8)
  | 0, _ => []
  | f+1, s => if s = [] then [] else s.take 64 :: chkF f (s.drop 64)
theorem chkF_more : ∀ (f g : Nat) (s : List UInt8), s.length < f → s.length < g → chkF f s = chkF g s
  | 0, _, _, h, _ => by omega
  | _, 0, _, _, h => by omega
  | f+1, g+1, s, hf, hg => by
    rw [chkF, chkF]
    by_cases h : s = []
    · rw [if_pos h, if_pos h]
    · rw [if_neg h, if_neg h]
      have hl : 0 < s.length := by
        cases s with
        | nil => exact absurd rfl h
        | cons => simp
      rw [chkF_more f g (s.drop 64) (by rw [List.length_drop]; omega) (by rw [List.length_drop]; omega)]
/-- the chunks of a text -/
def chk (s : List UInt8) : List (List UInt8) := chkF (s.length + 1) s
theorem chk_nil : chk [] = [] := rfl
theorem chk_cons {s : List UInt8} (h : s ≠ []) : chk s = s.take 64 :: chk (s.drop 64) := by
  have hl : 0 < s.length := by
    cases s with
    | nil => exact absurd rfl h
    | cons => simp
  show chkF (s.length + 1) s = _
  rw [chkF, if_neg h]
  congr 1
  exact chkF_more _ _ _ (by rw [List.length_drop]; omega) (Nat.lt_succ_self _)
theorem chk_len (s : List UInt8) : (chk s).length ≤ s.length := by
  have : ∀ f s, (chkF f s).length ≤ s.length := by
    intro f
    induction f with
    | zero => intro s; simp [chkF]
    | succ f ih =>
      intro s
      rw [chkF]
      split
      · simp
      · rename_i h
        have := ih (s.drop 64)
        have hl : 0 < s.length := by
          cases s with
          | nil => exact absurd rfl h
          | cons => simp
        rw [List.length_drop] at this
        simp only [List.length_cons]
        omega
  exact this _ s

def countI (n : Int) : Int := if n ≤ 0 then 0 else (n - 1) / 64 + 1
end Go.RV

/- Contracts of functions of chapter 7: values. Conditions: none. -/
set_option maxRecDepth 20000
set_option linter.unusedVariables false
set_option linter.unusedSimpArgs false
namespace Go.RV
open Go Go.Proofs

def encU (x : Int) : List Value := [.int .u32 x]
theorem encU_len (x : Int) : (encU x).length = 1 := rfl
def valV (d : Bool) (n : Int) (A : Option Addr) (l c : Nat) : Value := .agg #[.bool d, .int .i64 n, .slice A l c]
def isz (x : Int) : Bool := x == 0
/-- may a value be -/
def okVB (d : Bool) (n : Int) (xs : List Int) : Bool := !(d && (n != 0 || decide (0 < (xs.length : Int)))) && (!(decide (n < 0) || decide (256 < n)) && (!((xs.length : Int) != countI n) && !xs.any isz))
def sameB (d : Bool) (n : Int) (xs : List Int) (d2 : Bool) (n2 : Int) (ys : List Int) : Bool := (d == d2) && ((n == n2) && decide (xs = ys))
end Go.RV

/- Contracts of functions of chapter 7: texts of values. Conditions: none. -/
set_option maxRecDepth 20000
set_option linter.unusedVariables false
set_option linter.unusedSimpArgs false
namespace Go.RV
open Go Go.Proofs

def headT (d : Bool) (n : Int) : List UInt8 := if d then be 1 1 else be 0 1 ++ be (IntKind.u16.wrap n) 2
theorem head_c (bw : Nat) (bs : List UInt8) (L : LM) (hW : Wr bw bs L) (d : Bool) (n : Int) (w : World) (hS : St (keys L) w w L) (hn : bs.length ≤ 1073741824) :
    Fc Tryz.prog 87 [.pointer (some ⟨bw, 0, none⟩), .bool d, .int .i64 n] w fun v w' => ∃ L', Wr bw (bs ++ headT d n) L' ∧ St (keys L) w w' L' := by
  refine fc_i TB_ok Tryz.func87 rfl (by kernel_rfl) ?_
  have hS : Sf (keys L) w w (L ++ []) [] := ⟨by simpa using hS⟩
  cases d with
  | true =>
    repeat ((conv => whnf); first | (apply q_i; focus (intro w1 hS; (conv => whnf); first | exact ⟨rfl, rfl⟩)) | (refine nw_f hS ?_; intro b w1 hS) | (refine as_i hS ?_) | (refine as_i (hS.subs (List.nil_sublist _) (by repeat (first | exact List.Sublist.refl _ | apply List.Sublist.cons_cons | apply List.Sublist.cons))) ?_) | (refine as_i (hS.subs (List.Sublist.refl _) (by repeat (first | exact List.Sublist.refl _ | apply List.Sublist.cons_cons | apply List.Sublist.cons))) ?_) | (refine bar_f hS ?_) | (refine drawf TB_ok rfl (by kernel_rfl) (by kernel_rfl) hS (List.Sublist.refl _) (List.Sublist.refl _) ?_; intro w1 hS) | (refine br_t (by assumption) ?_) | (refine br_f (by assumption) ?_))
    refine fc_m (w8_c bw bs L hW 1 (by decide) (by decide) _ hS.ownF (by omega)) ?_
    rintro v w1 ⟨L1, hW1, hS'⟩
    replace hS := hS.callW hS'
    repeat ((conv => whnf); first | (apply q_i; focus (intro w1 hS; (conv => whnf); first | exact ⟨rfl, rfl⟩)) | (refine nw_f hS ?_; intro b w1 hS) | (refine as_i hS ?_) | (refine as_i (hS.subs (List.nil_sublist _) (by repeat (first | exact List.Sublist.refl _ | apply List.Sublist.cons_cons | apply List.Sublist.cons))) ?_) | (refine as_i (hS.subs (List.Sublist.refl _) (by repeat (first | exact List.Sublist.refl _ | apply List.Sublist.cons_cons | apply List.Sublist.cons))) ?_) | (refine bar_f hS ?_) | (refine drawf TB_ok rfl (by kernel_rfl) (by kernel_rfl) hS (List.Sublist.refl _) (List.Sublist.refl _) ?_; intro w1 hS) | (refine br_t (by assumption) ?_) | (refine br_f (by assumption) ?_))
    exact ⟨L1, hW1, by simpa using hS.st⟩
  | false =>
    repeat ((conv => whnf); first | (apply q_i; focus (intro w1 hS; (conv => whnf); first | exact ⟨rfl, rfl⟩)) | (refine nw_f hS ?_; intro b w1 hS) | (refine as_i hS ?_) | (refine as_i (hS.subs (List.nil_sublist _) (by repeat (first | exact List.Sublist.refl _ | apply List.Sublist.cons_cons | apply List.Sublist.cons))) ?_) | (refine as_i (hS.subs (List.Sublist.refl _) (by repeat (first | exact List.Sublist.refl _ | apply List.Sublist.cons_cons | apply List.Sublist.cons))) ?_) | (refine bar_f hS ?_) | (refine drawf TB_ok rfl (by kernel_rfl) (by kernel_rfl) hS (List.Sublist.refl _) (List.Sublist.refl _) ?_; intro w1 hS) | (refine br_t (by assumption) ?_) | (refine br_f (by assumption) ?_))
    refine fc_m (w8_c bw bs L hW 0 (by decide) (by decide) _ hS.ownF (by omega)) ?_
    rintro v w1 ⟨L1, hW1, hS'⟩
    replace hS := hS.callW hS'
    repeat ((conv => whnf); first | (apply q_i; focus (intro w1 hS; (conv => whnf); first | exact ⟨rfl, rfl⟩)) | (refine nw_f hS ?_; intro b w1 hS) | (refine as_i hS ?_) | (refine as_i (hS.subs (List.nil_sublist _) (by repeat (first | exact List.Sublist.refl _ | apply List.Sublist.cons_cons | apply List.Sublist.cons))) ?_) | (refine as_i (hS.subs (List.Sublist.refl _) (by repeat (first | exact List.Sublist.refl _ | apply List.Sublist.cons_cons | apply List.Sublist.cons))) ?_) | (refine bar_f hS ?_) | (refine drawf TB_ok rfl (by kernel_rfl) (by kernel_rfl) hS (List.Sublist.refl _) (List.Sublist.refl _) ?_; intro w1 hS) | (refine br_t (by assumption) ?_) | (refine br_f (by assumption) ?_))
    refine fc_m (w16_c bw _ L1 hW1 (IntKind.u16.wrap n) (by rw [wrap_u16_mod]; omega) (by rw [wrap_u16_mod]; omega) _ hS.ownF (by rw [List.length_append, be_len]; omega)) ?_
    rintro v w2 ⟨L2, hW2, hS'⟩
    replace hS := hS.callW hS'
    repeat ((conv => whnf); first | (apply q_i; focus (intro w1 hS; (conv => whnf); first | exact ⟨rfl, rfl⟩)) | (refine nw_f hS ?_; intro b w1 hS) | (refine as_i hS ?_) | (refine as_i (hS.subs (List.nil_sublist _) (by repeat (first | exact List.Sublist.refl _ | apply List.Sublist.cons_cons | apply List.Sublist.cons))) ?_) | (refine as_i (hS.subs (List.Sublist.refl _) (by repeat (first | exact List.Sublist.refl _ | apply List.Sublist.cons_cons | apply List.Sublist.cons))) ?_) | (refine bar_f hS ?_) | (refine drawf TB_ok rfl (by kernel_rfl) (by kernel_rfl) hS (List.Sublist.refl _) (List.Sublist.refl _) ?_; intro w1 hS) | (refine br_t (by assumption) ?_) | (refine br_f (by assumption) ?_))
    rw [List.append_assoc] at hW2
    exact ⟨L2, hW2, by simpa using hS.st⟩
def idsT (xs : List Int) : List UInt8 := xs.flatMap fun x => be x 4
theorem idsT_len : ∀ xs : List Int, (idsT xs).length = 4 * xs.length
  | [] => rfl
  | x :: xs => by
    have ih := idsT_len xs
    have e : idsT (x :: xs) = be x 4 ++ idsT xs := by simp [idsT]
    rw [e, List.length_append, be_len, ih, List.length_cons]
    omega
theorem idsT_snoc (xs : List Int) {i : Nat} (h : i < xs.length) : idsT (xs.take (i + 1)) = idsT (xs.take i) ++ be xs[i] 4 := by
  unfold idsT
  rw [List.take_succ_eq_append_getElem h, List.flatMap_append]
  simp
def valT (d : Bool) (n : Int) (xs : List Int) : List UInt8 := headT d n ++ idsT xs
theorem okVB_len {d : Bool} {n : Int} {xs : List Int} (h : okVB d n xs = true) : xs.length ≤ 4 := by
  simp only [okVB, Bool.and_eq_true, Bool.not_eq_true', Bool.or_eq_false_iff, decide_eq_false_iff_not, bne_eq_false_iff_eq] at h
  obtain ⟨_, ⟨h1, h2⟩, h3, _⟩ := h
  unfold countI at h3
  split at h3 <;> omega
end Go.RV

/- Contracts of functions of chapter 7: what is taken. Conditions: none. -/
set_option maxRecDepth 20000
set_option linter.unusedVariables false
set_option linter.unusedSimpArgs false
namespace Go.RV
open Go Go.Proofs

def tellS (s : RS) : RS × Int × Int := if numF 0 (fixedR s (1 : Nat)).1 = 0 then ((fixedR (fixedR s (1 : Nat)).2 (2 : Nat)).2, 0, numF 0 (fixedR (fixedR s (1 : Nat)).2 (2 : Nat)).1) else ((fixedR s (1 : Nat)).2, numF 0 (fixedR s (1 : Nat)).1, 0)
def tellR (t : RS × Int × Int) : Bool × Int × Int := if t.1.e ≠ 0 then (false, 0, t.1.e) else if 1 < t.2.1 ∨ 256 < t.2.2 then (false, 0, 4) else (t.2.1 == 1, t.2.2, 0)
theorem tell_c (br : Nat) (s : RS) (w : World) (hS : St [br] w w [(br, rdO s)]) :
    Fc Tryz.prog 101 [.pointer (some ⟨br, 0, none⟩)] w fun v w' => v = .tuple #[.bool (tellR (tellS s)).1, .int .i64 (tellR (tellS s)).2.1, .int .i64 (tellR (tellS s)).2.2] ∧ St [br] w w' [(br, rdO (tellS s).1)] := by
  refine fc_i TB_ok Tryz.func101 rfl (by kernel_rfl) ?_
  have hS : Sf [br] w w ([(br, rdO s)] ++ []) [] := ⟨hS⟩
  repeat ((conv => whnf); first | (apply q_i; focus (intro w1 hS; (conv => whnf); first | exact ⟨rfl, rfl⟩)) | (refine nw_f hS ?_; intro b w1 hS) | (refine as_i hS ?_) | (refine as_i (hS.subs (List.nil_sublist _) (by repeat (first | exact List.Sublist.refl _ | apply List.Sublist.cons_cons | apply List.Sublist.cons))) ?_) | (refine as_i (hS.subs (List.Sublist.refl _) (by repeat (first | exact List.Sublist.refl _ | apply List.Sublist.cons_cons | apply List.Sublist.cons))) ?_) | (refine bar_f hS ?_) | (refine drawf TB_ok rfl (by kernel_rfl) (by kernel_rfl) hS (List.Sublist.refl _) (List.Sublist.refl _) ?_; intro w1 hS) | (refine br_t (by assumption) ?_) | (refine br_f (by assumption) ?_))
  refine fc_m (r8_c br s _ hS.ownF) ?_
  rintro v w1 ⟨rfl, hS'⟩
  replace hS := hS.callW hS'
  have hnl := numF_lt s 1
  rw [show (256 : Int) ^ 1 = 256 from by decide] at hnl
  have hw8 : IntKind.u8.wrap (numF 0 (fixedR s 1).1) = numF 0 (fixedR s (1 : Nat)).1 := wrap_u8 hnl.1 hnl.2
  rw [hw8]
  replace hS : Sf [br] w w1 ([(br, rdO (fixedR s (1 : Nat)).2)] ++ []) [] := hS
  unfold tellS
  generalize numF 0 (fixedR s (1 : Nat)).1 = k at *
  generalize (fixedR s (1 : Nat)).2 = s1 at *
  have fin : ∀ (t : RS × Int × Int) (w' : World), St [br] w w' [(br, rdO t.1)] → Sf [br] w w' ([(br, rdO t.1)] ++ []) [] := fun t w' h => ⟨by simpa using h⟩
  repeat ((conv => whnf); first | (apply q_i; focus (intro w1 hS; (conv => whnf); first | exact ⟨rfl, rfl⟩)) | (refine nw_f hS ?_; intro b w1 hS) | (refine as_i hS ?_) | (refine as_i (hS.subs (List.nil_sublist _) (by repeat (first | exact List.Sublist.refl _ | apply List.Sublist.cons_cons | apply List.Sublist.cons))) ?_) | (refine as_i (hS.subs (List.Sublist.refl _) (by repeat (first | exact List.Sublist.refl _ | apply List.Sublist.cons_cons | apply List.Sublist.cons))) ?_) | (refine bar_f hS ?_) | (refine drawf TB_ok rfl (by kernel_rfl) (by kernel_rfl) hS (List.Sublist.refl _) (List.Sublist.refl _) ?_; intro w1 hS) | (refine br_t (by assumption) ?_) | (refine br_f (by assumption) ?_))
  refine br_i (fun h0 => ?_) (fun h0 => ?_)
  · have hk : k = 0 := by simpa using h0
    rw [if_pos hk]
    repeat ((conv => whnf); first | (apply q_i; focus (intro w1 hS; (conv => whnf); first | exact ⟨rfl, rfl⟩)) | (refine nw_f hS ?_; intro b w1 hS) | (refine as_i hS ?_) | (refine as_i (hS.subs (List.nil_sublist _) (by repeat (first | exact List.Sublist.refl _ | apply List.Sublist.cons_cons | apply List.Sublist.cons))) ?_) | (refine as_i (hS.subs (List.Sublist.refl _) (by repeat (first | exact List.Sublist.refl _ | apply List.Sublist.cons_cons | apply List.Sublist.cons))) ?_) | (refine bar_f hS ?_) | (refine drawf TB_ok rfl (by kernel_rfl) (by kernel_rfl) hS (List.Sublist.refl _) (List.Sublist.refl _) ?_; intro w1 hS) | (refine br_t (by assumption) ?_) | (refine br_f (by assumption) ?_))
    refine fc_m (r16_c br s1 _ hS.ownF) ?_
    rintro v w2 ⟨rfl, hS'⟩
    replace hS := hS.callW hS'
    have hnl2 := numF_lt s1 2
    rw [show (256 : Int) ^ 2 = 65536 from by decide] at hnl2
    have hw16 : IntKind.u16.wrap (numF 0 (fixedR s1 2).1) = numF 0 (fixedR s1 (2 : Nat)).1 := by
      show IntKind.u16.wrap (numF 0 (fixedR s1 (2 : Nat)).1) = _
      rw [wrap_u16_mod, Int.emod_eq_of_lt hnl2.1 hnl2.2]
    replace hS : Sf [br] w w2 ([(br, rdO (fixedR s1 (2 : Nat)).2)] ++ []) [] := hS
    rw [hw16]
    generalize numF 0 (fixedR s1 (2 : Nat)).1 = sz at *
    generalize (fixedR s1 (2 : Nat)).2 = s2 at *
    subst hk
    have hwz : IntKind.i64.wrap sz = sz := wrap_i64 (by omega) (by omega)
    repeat ((conv => whnf); first | (apply q_i; focus (intro w1 hS; (conv => whnf); first | exact ⟨rfl, rfl⟩)) | (refine nw_f hS ?_; intro b w1 hS) | (refine as_i hS ?_) | (refine as_i (hS.subs (List.nil_sublist _) (by repeat (first | exact List.Sublist.refl _ | apply List.Sublist.cons_cons | apply List.Sublist.cons))) ?_) | (refine as_i (hS.subs (List.Sublist.refl _) (by repeat (first | exact List.Sublist.refl _ | apply List.Sublist.cons_cons | apply List.Sublist.cons))) ?_) | (refine bar_f hS ?_) | (refine drawf TB_ok rfl (by kernel_rfl) (by kernel_rfl) hS (List.Sublist.refl _) (List.Sublist.refl _) ?_; intro w1 hS) | (refine br_t (by assumption) ?_) | (refine br_f (by assumption) ?_))
    refine fc_m (rerr_c br s2 _ hS.ownF) ?_
    rintro v w3 ⟨rfl, hS'⟩
    replace hS := hS.call0 hS'
    unfold tellR
    simp only
    repeat ((conv => whnf); first | (apply q_i; focus (intro w1 hS; (conv => whnf); first | exact ⟨rfl, rfl⟩)) | (refine nw_f hS ?_; intro b w1 hS) | (refine as_i hS ?_) | (refine as_i (hS.subs (List.nil_sublist _) (by repeat (first | exact List.Sublist.refl _ | apply List.Sublist.cons_cons | apply List.Sublist.cons))) ?_) | (refine as_i (hS.subs (List.Sublist.refl _) (by repeat (first | exact List.Sublist.refl _ | apply List.Sublist.cons_cons | apply List.Sublist.cons))) ?_) | (refine bar_f hS ?_) | (refine drawf TB_ok rfl (by kernel_rfl) (by kernel_rfl) hS (List.Sublist.refl _) (List.Sublist.refl _) ?_; intro w1 hS) | (refine br_t (by assumption) ?_) | (refine br_f (by assumption) ?_))
    refine br_i (fun h1 => ?_) (fun h1 => ?_)
    · have he : s2.e ≠ 0 := by simpa using h1
      repeat ((conv => whnf); first | (apply q_i; focus (intro w1 hS; (conv => whnf); first | exact ⟨rfl, rfl⟩)) | (refine nw_f hS ?_; intro b w1 hS) | (refine as_i hS ?_) | (refine as_i (hS.subs (List.nil_sublist _) (by repeat (first | exact List.Sublist.refl _ | apply List.Sublist.cons_cons | apply List.Sublist.cons))) ?_) | (refine as_i (hS.subs (List.Sublist.refl _) (by repeat (first | exact List.Sublist.refl _ | apply List.Sublist.cons_cons | apply List.Sublist.cons))) ?_) | (refine bar_f hS ?_) | (refine drawf TB_ok rfl (by kernel_rfl) (by kernel_rfl) hS (List.Sublist.refl _) (List.Sublist.refl _) ?_; intro w1 hS) | (refine br_t (by assumption) ?_) | (refine br_f (by assumption) ?_))
      refine fc_m (rerr_c br s2 _ hS.ownF) ?_
      rintro v w4 ⟨rfl, hS'⟩
      replace hS := hS.call0 hS'
      repeat ((conv => whnf); first | (apply q_i; focus (intro w1 hS; (conv => whnf); first | exact ⟨rfl, rfl⟩)) | (refine nw_f hS ?_; intro b w1 hS) | (refine as_i hS ?_) | (refine as_i (hS.subs (List.nil_sublist _) (by repeat (first | exact List.Sublist.refl _ | apply List.Sublist.cons_cons | apply List.Sublist.cons))) ?_) | (refine as_i (hS.subs (List.Sublist.refl _) (by repeat (first | exact List.Sublist.refl _ | apply List.Sublist.cons_cons | apply List.Sublist.cons))) ?_) | (refine bar_f hS ?_) | (refine drawf TB_ok rfl (by kernel_rfl) (by kernel_rfl) hS (List.Sublist.refl _) (List.Sublist.refl _) ?_; intro w1 hS) | (refine br_t (by assumption) ?_) | (refine br_f (by assumption) ?_))
      rw [if_pos he]
      exact ⟨rfl, by simpa using hS.st⟩
    have he : ¬ s2.e ≠ 0 := by simpa using h1
    rw [if_neg he]
    repeat ((conv => whnf); first | (apply q_i; focus (intro w1 hS; (conv => whnf); first | exact ⟨rfl, rfl⟩)) | (refine nw_f hS ?_; intro b w1 hS) | (refine as_i hS ?_) | (refine as_i (hS.subs (List.nil_sublist _) (by repeat (first | exact List.Sublist.refl _ | apply List.Sublist.cons_cons | apply List.Sublist.cons))) ?_) | (refine as_i (hS.subs (List.Sublist.refl _) (by repeat (first | exact List.Sublist.refl _ | apply List.Sublist.cons_cons | apply List.Sublist.cons))) ?_) | (refine bar_f hS ?_) | (refine drawf TB_ok rfl (by kernel_rfl) (by kernel_rfl) hS (List.Sublist.refl _) (List.Sublist.refl _) ?_; intro w1 hS) | (refine br_t (by assumption) ?_) | (refine br_f (by assumption) ?_))
    refine br_i (fun h2 => ?_) (fun h2 => ?_)
    · have h2' : 256 < sz := by rw [hwz] at h2; exact of_decide_eq_true h2
      repeat ((conv => whnf); first | (apply q_i; focus (intro w1 hS; (conv => whnf); first | exact ⟨rfl, rfl⟩)) | (refine nw_f hS ?_; intro b w1 hS) | (refine as_i hS ?_) | (refine as_i (hS.subs (List.nil_sublist _) (by repeat (first | exact List.Sublist.refl _ | apply List.Sublist.cons_cons | apply List.Sublist.cons))) ?_) | (refine as_i (hS.subs (List.Sublist.refl _) (by repeat (first | exact List.Sublist.refl _ | apply List.Sublist.cons_cons | apply List.Sublist.cons))) ?_) | (refine bar_f hS ?_) | (refine drawf TB_ok rfl (by kernel_rfl) (by kernel_rfl) hS (List.Sublist.refl _) (List.Sublist.refl _) ?_; intro w1 hS) | (refine br_t (by assumption) ?_) | (refine br_f (by assumption) ?_))
      rw [if_pos (.inr h2')]
      exact ⟨rfl, by simpa using hS.st⟩
    · have h2' : ¬ 256 < sz := by rw [hwz] at h2; exact of_decide_eq_false h2
      repeat ((conv => whnf); first | (apply q_i; focus (intro w1 hS; (conv => whnf); first | exact ⟨rfl, rfl⟩)) | (refine nw_f hS ?_; intro b w1 hS) | (refine as_i hS ?_) | (refine as_i (hS.subs (List.nil_sublist _) (by repeat (first | exact List.Sublist.refl _ | apply List.Sublist.cons_cons | apply List.Sublist.cons))) ?_) | (refine as_i (hS.subs (List.Sublist.refl _) (by repeat (first | exact List.Sublist.refl _ | apply List.Sublist.cons_cons | apply List.Sublist.cons))) ?_) | (refine bar_f hS ?_) | (refine drawf TB_ok rfl (by kernel_rfl) (by kernel_rfl) hS (List.Sublist.refl _) (List.Sublist.refl _) ?_; intro w1 hS) | (refine br_t (by assumption) ?_) | (refine br_f (by assumption) ?_))
      rw [if_neg (by omega)]
      refine ⟨?_, by simpa using hS.st⟩
      show Value.tuple #[.bool (0 == 1), .int .i64 (IntKind.i64.wrap sz), .int .i64 0] = _
      rw [hwz]
  · have hk : ¬ k = 0 := by simpa using h0
    rw [if_neg hk]
    repeat ((conv => whnf); first | (apply q_i; focus (intro w1 hS; (conv => whnf); first | exact ⟨rfl, rfl⟩)) | (refine nw_f hS ?_; intro b w1 hS) | (refine as_i hS ?_) | (refine as_i (hS.subs (List.nil_sublist _) (by repeat (first | exact List.Sublist.refl _ | apply List.Sublist.cons_cons | apply List.Sublist.cons))) ?_) | (refine as_i (hS.subs (List.Sublist.refl _) (by repeat (first | exact List.Sublist.refl _ | apply List.Sublist.cons_cons | apply List.Sublist.cons))) ?_) | (refine bar_f hS ?_) | (refine drawf TB_ok rfl (by kernel_rfl) (by kernel_rfl) hS (List.Sublist.refl _) (List.Sublist.refl _) ?_; intro w1 hS) | (refine br_t (by assumption) ?_) | (refine br_f (by assumption) ?_))
    refine fc_m (rerr_c br s1 _ hS.ownF) ?_
    rintro v w3 ⟨rfl, hS'⟩
    replace hS := hS.call0 hS'
    unfold tellR
    simp only
    repeat ((conv => whnf); first | (apply q_i; focus (intro w1 hS; (conv => whnf); first | exact ⟨rfl, rfl⟩)) | (refine nw_f hS ?_; intro b w1 hS) | (refine as_i hS ?_) | (refine as_i (hS.subs (List.nil_sublist _) (by repeat (first | exact List.Sublist.refl _ | apply List.Sublist.cons_cons | apply List.Sublist.cons))) ?_) | (refine as_i (hS.subs (List.Sublist.refl _) (by repeat (first | exact List.Sublist.refl _ | apply List.Sublist.cons_cons | apply List.Sublist.cons))) ?_) | (refine bar_f hS ?_) | (refine drawf TB_ok rfl (by kernel_rfl) (by kernel_rfl) hS (List.Sublist.refl _) (List.Sublist.refl _) ?_; intro w1 hS) | (refine br_t (by assumption) ?_) | (refine br_f (by assumption) ?_))
    refine br_i (fun h1 => ?_) (fun h1 => ?_)
    · have he : s1.e ≠ 0 := by simpa using h1
      repeat ((conv => whnf); first | (apply q_i; focus (intro w1 hS; (conv => whnf); first | exact ⟨rfl, rfl⟩)) | (refine nw_f hS ?_; intro b w1 hS) | (refine as_i hS ?_) | (refine as_i (hS.subs (List.nil_sublist _) (by repeat (first | exact List.Sublist.refl _ | apply List.Sublist.cons_cons | apply List.Sublist.cons))) ?_) | (refine as_i (hS.subs (List.Sublist.refl _) (by repeat (first | exact List.Sublist.refl _ | apply List.Sublist.cons_cons | apply List.Sublist.cons))) ?_) | (refine bar_f hS ?_) | (refine drawf TB_ok rfl (by kernel_rfl) (by kernel_rfl) hS (List.Sublist.refl _) (List.Sublist.refl _) ?_; intro w1 hS) | (refine br_t (by assumption) ?_) | (refine br_f (by assumption) ?_))
      refine fc_m (rerr_c br s1 _ hS.ownF) ?_
      rintro v w4 ⟨rfl, hS'⟩
      replace hS := hS.call0 hS'
      repeat ((conv => whnf); first | (apply q_i; focus (intro w1 hS; (conv => whnf); first | exact ⟨rfl, rfl⟩)) | (refine nw_f hS ?_; intro b w1 hS) | (refine as_i hS ?_) | (refine as_i (hS.subs (List.nil_sublist _) (by repeat (first | exact List.Sublist.refl _ | apply List.Sublist.cons_cons | apply List.Sublist.cons))) ?_) | (refine as_i (hS.subs (List.Sublist.refl _) (by repeat (first | exact List.Sublist.refl _ | apply List.Sublist.cons_cons | apply List.Sublist.cons))) ?_) | (refine bar_f hS ?_) | (refine drawf TB_ok rfl (by kernel_rfl) (by kernel_rfl) hS (List.Sublist.refl _) (List.Sublist.refl _) ?_; intro w1 hS) | (refine br_t (by assumption) ?_) | (refine br_f (by assumption) ?_))
      rw [if_pos he]
      exact ⟨rfl, by simpa using hS.st⟩
    have he : ¬ s1.e ≠ 0 := by simpa using h1
    rw [if_neg he]
    repeat ((conv => whnf); first | (apply q_i; focus (intro w1 hS; (conv => whnf); first | exact ⟨rfl, rfl⟩)) | (refine nw_f hS ?_; intro b w1 hS) | (refine as_i hS ?_) | (refine as_i (hS.subs (List.nil_sublist _) (by repeat (first | exact List.Sublist.refl _ | apply List.Sublist.cons_cons | apply List.Sublist.cons))) ?_) | (refine as_i (hS.subs (List.Sublist.refl _) (by repeat (first | exact List.Sublist.refl _ | apply List.Sublist.cons_cons | apply List.Sublist.cons))) ?_) | (refine bar_f hS ?_) | (refine drawf TB_ok rfl (by kernel_rfl) (by kernel_rfl) hS (List.Sublist.refl _) (List.Sublist.refl _) ?_; intro w1 hS) | (refine br_t (by assumption) ?_) | (refine br_f (by assumption) ?_))
    refine br_i (fun h2 => ?_) (fun h2 => ?_)
    · have h2' : 1 < k := of_decide_eq_true h2
      repeat ((conv => whnf); first | (apply q_i; focus (intro w1 hS; (conv => whnf); first | exact ⟨rfl, rfl⟩)) | (refine nw_f hS ?_; intro b w1 hS) | (refine as_i hS ?_) | (refine as_i (hS.subs (List.nil_sublist _) (by repeat (first | exact List.Sublist.refl _ | apply List.Sublist.cons_cons | apply List.Sublist.cons))) ?_) | (refine as_i (hS.subs (List.Sublist.refl _) (by repeat (first | exact List.Sublist.refl _ | apply List.Sublist.cons_cons | apply List.Sublist.cons))) ?_) | (refine bar_f hS ?_) | (refine drawf TB_ok rfl (by kernel_rfl) (by kernel_rfl) hS (List.Sublist.refl _) (List.Sublist.refl _) ?_; intro w1 hS) | (refine br_t (by assumption) ?_) | (refine br_f (by assumption) ?_))
      rw [if_pos (.inl h2')]
      exact ⟨rfl, by simpa using hS.st⟩
    · have h2' : ¬ 1 < k := of_decide_eq_false h2
      repeat ((conv => whnf); first | (apply q_i; focus (intro w1 hS; (conv => whnf); first | exact ⟨rfl, rfl⟩)) | (refine nw_f hS ?_; intro b w1 hS) | (refine as_i hS ?_) | (refine as_i (hS.subs (List.nil_sublist _) (by repeat (first | exact List.Sublist.refl _ | apply List.Sublist.cons_cons | apply List.Sublist.cons))) ?_) | (refine as_i (hS.subs (List.Sublist.refl _) (by repeat (first | exact List.Sublist.refl _ | apply List.Sublist.cons_cons | apply List.Sublist.cons))) ?_) | (refine bar_f hS ?_) | (refine drawf TB_ok rfl (by kernel_rfl) (by kernel_rfl) hS (List.Sublist.refl _) (List.Sublist.refl _) ?_; intro w1 hS) | (refine br_t (by assumption) ?_) | (refine br_f (by assumption) ?_))
      rw [if_neg (by omega)]
      exact ⟨rfl, by simpa using hS.st⟩

theorem zero_val : (Value.agg #[.bool false, .int .i64 0, .slice none 0 0]) = valV false 0 none 0 0 := rfl
def ridN (s : RS) : Nat → List Int × RS
  | 0 => ([], s)
  | k+1 => ((ridN s k).1 ++ [numF 0 (fixedR (ridN s k).2 (4 : Nat)).1], (fixedR (ridN s k).2 (4 : Nat)).2)
theorem ridN_len (s : RS) : ∀ k, (ridN s k).1.length = k
  | 0 => rfl
  | k+1 => by
    show ((ridN s k).1 ++ [_]).length = _
    rw [List.length_append, ridN_len s k]
    rfl
def valR (t : RS × Int × Int) : RS := if (tellR t).2.2 ≠ 0 then t.1 else (ridN t.1 (countI (tellR t).2.1).toNat).2
def takeV (t : RS × Int × Int) : (Bool × Int × List Int) × Int :=
  if (tellR t).2.2 ≠ 0 then ((false, 0, []), (tellR t).2.2) else
  if (valR t).e ≠ 0 then ((false, 0, []), (valR t).e) else
  if okVB (tellR t).1 (tellR t).2.1 (ridN t.1 (countI (tellR t).2.1).toNat).1 then (((tellR t).1, (tellR t).2.1, (ridN t.1 (countI (tellR t).2.1).toNat).1), 0) else ((false, 0, []), 4)
theorem tellR_sz (t : RS × Int × Int) (h : 0 ≤ t.2.2) : 0 ≤ (tellR t).2.1 ∧ (tellR t).2.1 ≤ 256 := by
  unfold tellR
  split
  · simp
  · split
    · simp
    · simp only; omega
theorem tellS_sz (s : RS) : 0 ≤ (tellS s).2.2 := by
  unfold tellS
  split
  · exact (numF_lt _ 2).1
  · simp
end Go.RV

/- Contracts of functions of chapter 7: what is taken. Conditions: none. -/
set_option maxRecDepth 20000
set_option linter.unusedVariables false
set_option linter.unusedSimpArgs false
namespace Go.RV
open Go Go.Proofs

end Go.RV

/- Contracts of functions of chapter 7: awake. Conditions: none. -/
set_option maxRecDepth 20000
set_option linter.unusedVariables false
set_option linter.unusedSimpArgs false
namespace Go.RV
open Go Go.Proofs

end Go.RV
