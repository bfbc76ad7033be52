/- Contracts of functions of chapter 8: the chapter's answers. Conditions: none. -/
import Derived.Test.YtafadpfljnhhfaaDoorG9
set_option maxRecDepth 20000
set_option linter.unusedVariables false
set_option linter.unusedSimpArgs false
namespace Go.RV
open Go Go.Proofs

theorem pdotF (r n r2 n2 : Int) (w : World) : (Op.eqFields 9999 #[.int .u8 r, .int .u32 n] #[.int .u8 r2, .int .u32 n2] (Tryd.prog.fieldsOf 58).toList).run Tryd.prog w = .ok ((r == r2) && ((n == n2) && true)) w := by
  simp only [Program.fieldsOf, Tryd.underlying58]
  exact eqF_cons (d := 9998) rfl rfl rfl (.int Tryd.underlying5) (eqF_cons rfl rfl rfl (.int Tryd.underlying22) eqF_nil)
theorem fieldsPDot : Tryd.prog.underlying 58 = some (.struct (Tryd.prog.fieldsOf 58)) := by
  unfold Program.fieldsOf
  rw [Tryd.underlying58]
theorem eqPDot (r n r2 n2 : Int) {ox oy : Operand} {w : World} {K : Value → World → Prop} (k : K (.bool ((r == r2) && ((n == n2) && true))) w) :
    SemN Tryd.prog (do eqGuard .eql 58 ox oy (dotV r n) (dotV r2 n2); binOp .eql 58 (dotV r n) (dotV r2 n2)) w K :=
  eqS_i (by kernel_rfl) fieldsPDot (by kernel_rfl) (pdotF r n r2 n2 w) k
theorem sib_c (r n : Int) (s : ByteArray) (w : World) : Fc Tryd.prog 15 [.int .u8 r, .int .u32 n, .string s] w fun v w' => v = .agg #[.int .u8 r, .int .u32 n, .string s] ∧ St [] w w' [] := by
  refine fc_i TB_ok Tryd.func15 rfl (by kernel_rfl) ?_
  have hS := Sf.refl w
  repeat ((conv => whnf); first | (refine nw_f hS ?_; intro b w1 hS) | (refine as_i hS ?_) | (refine as_i (hS.subs (List.nil_sublist _) (by repeat (first | exact List.Sublist.refl _ | apply List.Sublist.cons_cons | apply List.Sublist.cons))) ?_) | (refine bar_f hS ?_) | (refine ld_f hS 0 rfl rfl ?_) | (refine ldA_f hS 0 rfl rfl ?_) | (refine stN_f hS 0 rfl (Nat.le_of_ble_eq_true rfl) rfl rfl ?_; (conv => whnf); intro w1 hS) | (refine stM_f hS 0 rfl (Nat.le_of_ble_eq_true rfl) rfl ?_; (conv => whnf); intro w1 hS) | (refine drawf TB_ok rfl (by kernel_rfl) (by kernel_rfl) hS (List.Sublist.refl _) (List.Sublist.refl _) ?_; intro w1 hS) | (refine br_t (by assumption) ?_) | (refine br_f (by assumption) ?_) | (apply q_i; focus (intro w1 hS; (conv => whnf); first | exact ⟨rfl, rfl⟩ | ((refine ld_f hS 0 rfl rfl ?_); (conv => whnf); exact ⟨rfl, rfl⟩) | ((refine ldA_f hS 0 rfl rfl ?_); (conv => whnf); exact ⟨rfl, rfl⟩))))
  exact ⟨rfl, hS.nil⟩
def givenF : Nat → Int
  | 0 => 1
  | 1 => 2
  | 2 => 2
  | _ => 0
def givenX : List Sx := [⟨0, 1, [97]⟩, ⟨1, 2, [98]⟩, ⟨2, 2, [97]⟩]
theorem given_c (w : World) : Fc Tryd.prog 14 [] w fun v w' => ∃ b, v = regV givenF (some ⟨b, 0, none⟩) 3 3 ∧ St [] w w' [(b, .cells (flat encX givenX).toArray 60 (0, 0))] := by
  refine fc_i TB_ok Tryd.func14 rfl (by kernel_rfl) ?_
  have hS := Sf.refl w
  repeat ((conv => whnf); first | (refine nw_f hS ?_; intro b w1 hS) | (refine as_i hS ?_) | (refine as_i (hS.subs (List.nil_sublist _) (by repeat (first | exact List.Sublist.refl _ | apply List.Sublist.cons_cons | apply List.Sublist.cons))) ?_) | (refine bar_f hS ?_) | (refine ld_f hS 0 rfl rfl ?_) | (refine ldA_f hS 0 rfl rfl ?_) | (refine stN_f hS 0 rfl (Nat.le_of_ble_eq_true rfl) rfl rfl ?_; (conv => whnf); intro w1 hS) | (refine stM_f hS 0 rfl (Nat.le_of_ble_eq_true rfl) rfl ?_; (conv => whnf); intro w1 hS) | (refine drawf TB_ok rfl (by kernel_rfl) (by kernel_rfl) hS (List.Sublist.refl _) (List.Sublist.refl _) ?_; intro w1 hS) | (refine br_t (by assumption) ?_) | (refine br_f (by assumption) ?_) | (apply q_i; focus (intro w1 hS; (conv => whnf); first | exact ⟨rfl, rfl⟩ | ((refine ld_f hS 0 rfl rfl ?_); (conv => whnf); exact ⟨rfl, rfl⟩) | ((refine ldA_f hS 0 rfl rfl ?_); (conv => whnf); exact ⟨rfl, rfl⟩))))
  refine fc_m (sib_c _ _ _ _) ?_; rintro v w1 ⟨rfl, hS'⟩; replace hS := hS.call0 hS'
  repeat ((conv => whnf); first | (refine nw_f hS ?_; intro b w1 hS) | (refine as_i hS ?_) | (refine as_i (hS.subs (List.nil_sublist _) (by repeat (first | exact List.Sublist.refl _ | apply List.Sublist.cons_cons | apply List.Sublist.cons))) ?_) | (refine bar_f hS ?_) | (refine ld_f hS 0 rfl rfl ?_) | (refine ldA_f hS 0 rfl rfl ?_) | (refine stN_f hS 0 rfl (Nat.le_of_ble_eq_true rfl) rfl rfl ?_; (conv => whnf); intro w1 hS) | (refine stM_f hS 0 rfl (Nat.le_of_ble_eq_true rfl) rfl ?_; (conv => whnf); intro w1 hS) | (refine drawf TB_ok rfl (by kernel_rfl) (by kernel_rfl) hS (List.Sublist.refl _) (List.Sublist.refl _) ?_; intro w1 hS) | (refine br_t (by assumption) ?_) | (refine br_f (by assumption) ?_) | (apply q_i; focus (intro w1 hS; (conv => whnf); first | exact ⟨rfl, rfl⟩ | ((refine ld_f hS 0 rfl rfl ?_); (conv => whnf); exact ⟨rfl, rfl⟩) | ((refine ldA_f hS 0 rfl rfl ?_); (conv => whnf); exact ⟨rfl, rfl⟩))))
  refine fc_m (sib_c _ _ _ _) ?_; rintro v w1 ⟨rfl, hS'⟩; replace hS := hS.call0 hS'
  repeat ((conv => whnf); first | (refine nw_f hS ?_; intro b w1 hS) | (refine as_i hS ?_) | (refine as_i (hS.subs (List.nil_sublist _) (by repeat (first | exact List.Sublist.refl _ | apply List.Sublist.cons_cons | apply List.Sublist.cons))) ?_) | (refine bar_f hS ?_) | (refine ld_f hS 0 rfl rfl ?_) | (refine ldA_f hS 0 rfl rfl ?_) | (refine stN_f hS 0 rfl (Nat.le_of_ble_eq_true rfl) rfl rfl ?_; (conv => whnf); intro w1 hS) | (refine stM_f hS 0 rfl (Nat.le_of_ble_eq_true rfl) rfl ?_; (conv => whnf); intro w1 hS) | (refine drawf TB_ok rfl (by kernel_rfl) (by kernel_rfl) hS (List.Sublist.refl _) (List.Sublist.refl _) ?_; intro w1 hS) | (refine br_t (by assumption) ?_) | (refine br_f (by assumption) ?_) | (apply q_i; focus (intro w1 hS; (conv => whnf); first | exact ⟨rfl, rfl⟩ | ((refine ld_f hS 0 rfl rfl ?_); (conv => whnf); exact ⟨rfl, rfl⟩) | ((refine ldA_f hS 0 rfl rfl ?_); (conv => whnf); exact ⟨rfl, rfl⟩))))
  refine fc_m (sib_c _ _ _ _) ?_; rintro v w1 ⟨rfl, hS'⟩; replace hS := hS.call0 hS'
  repeat ((conv => whnf); first | (refine nw_f hS ?_; intro b w1 hS) | (refine as_i hS ?_) | (refine as_i (hS.subs (List.nil_sublist _) (by repeat (first | exact List.Sublist.refl _ | apply List.Sublist.cons_cons | apply List.Sublist.cons))) ?_) | (refine bar_f hS ?_) | (refine ld_f hS 0 rfl rfl ?_) | (refine ld_f hS 1 rfl rfl ?_) | (refine ldA_f hS 0 rfl rfl ?_) | (refine ldA_f hS 1 rfl rfl ?_) | (refine stN_f hS 0 rfl (Nat.le_of_ble_eq_true rfl) rfl rfl ?_; (conv => whnf); intro w1 hS) | (refine stN_f hS 1 rfl (Nat.le_of_ble_eq_true rfl) rfl rfl ?_; (conv => whnf); intro w1 hS) | (refine stM_f hS 0 rfl (Nat.le_of_ble_eq_true rfl) rfl ?_; (conv => whnf); intro w1 hS) | (refine stM_f hS 1 rfl (Nat.le_of_ble_eq_true rfl) rfl ?_; (conv => whnf); intro w1 hS) | (refine drawf TB_ok rfl (by kernel_rfl) (by kernel_rfl) hS (List.Sublist.refl _) (List.Sublist.refl _) ?_; intro w1 hS) | (refine br_t (by assumption) ?_) | (refine br_f (by assumption) ?_) | (apply q_i; focus (intro w1 hS; (conv => whnf); first | exact ⟨rfl, rfl⟩ | ((refine ld_f hS 0 rfl rfl ?_); (conv => whnf); exact ⟨rfl, rfl⟩) | ((refine ld_f hS 1 rfl rfl ?_); (conv => whnf); exact ⟨rfl, rfl⟩) | ((refine ldA_f hS 0 rfl rfl ?_); (conv => whnf); exact ⟨rfl, rfl⟩) | ((refine ldA_f hS 1 rfl rfl ?_); (conv => whnf); exact ⟨rfl, rfl⟩))))
  exact ⟨_, rfl, hS.sub (.cons_cons _ (List.nil_sublist _))⟩
theorem lawAt_c (f : Nat → Int) (A : Option Addr) (c : Nat) (xs : List Sx) (name : List UInt8) (small : Bool) (w : World) (hR : Rd w A (flat encX xs)) (hn : xs.length ≤ 1000) (hx : ∀ x ∈ xs, x.v.length ≤ 1000) (hnm : name.length ≤ 1073741824)
    (hrn : ∀ x ∈ xs, (0 ≤ x.r ∧ x.r ≤ 255) ∧ 0 ≤ x.n ∧ x.n ≤ 4294967295) (hD : ∀ x ∈ xs, rightB x.r x.n = true → Digs w x.r ∧ Digs w x.n) :
    Fc Tryd.prog 12 [regV f A xs.length c, .string (strY name), .bool small] w fun v w' => ∃ gs Ls, gs.map gp = grps (alikeB fun a b => sameT a b small) xs ∧ (∀ g ∈ gs, GOk 58 g) ∧ Sl 52 5 v (seenOf name gs).length (flat encSn (seenOf name gs)) Ls ∧ St [] w w' (Ls ++ gsL gs) := by
  refine fc_i TB_ok Tryd.func12 rfl (by kernel_rfl) ?_
  have hS := Sf.refl w
  cases small with
  | false =>
    repeat ((conv => whnf); first | (refine nw_f hS ?_; intro b w1 hS) | (refine as_i hS ?_) | (refine as_i (hS.subs (List.nil_sublist _) (by repeat (first | exact List.Sublist.refl _ | apply List.Sublist.cons_cons | apply List.Sublist.cons))) ?_) | (refine bar_f hS ?_) | (refine ld_f hS 0 rfl rfl ?_) | (refine ldA_f hS 0 rfl rfl ?_) | (refine stN_f hS 0 rfl (Nat.le_of_ble_eq_true rfl) rfl rfl ?_; (conv => whnf); intro w1 hS) | (refine stM_f hS 0 rfl (Nat.le_of_ble_eq_true rfl) rfl ?_; (conv => whnf); intro w1 hS) | (refine drawf TB_ok rfl (by kernel_rfl) (by kernel_rfl) hS (List.Sublist.refl _) (List.Sublist.refl _) ?_; intro w1 hS) | (refine br_t (by assumption) ?_) | (refine br_f (by assumption) ?_) | (apply q_i; focus (intro w1 hS; (conv => whnf); first | exact ⟨rfl, rfl⟩ | ((refine ld_f hS 0 rfl rfl ?_); (conv => whnf); exact ⟨rfl, rfl⟩) | ((refine ldA_f hS 0 rfl rfl ?_); (conv => whnf); exact ⟨rfl, rfl⟩))))
    refine fc_m (at_c f A c xs name _ _ _ (fun a b => sameT a b false) _ (hR.below hS.nil) hn hx hnm hrn (fun x h h2 => ⟨(hD x h h2).1.below hS.nil, (hD x h h2).2.below hS.nil⟩) (fun a b w' _ _ _ => Cv.of_fc (just_c a b w'))) ?_
    rintro v w1 ⟨gs, Ls, h1, h2, h3, hS'⟩
    replace hS := hS.callF hS'
    obtain ⟨A2, c2, rfl, h3⟩ := h3.open
    repeat ((conv => whnf); first | (refine nw_f hS ?_; intro b w1 hS) | (refine as_i hS ?_) | (refine as_i (hS.subs (List.nil_sublist _) (by repeat (first | exact List.Sublist.refl _ | apply List.Sublist.cons_cons | apply List.Sublist.cons))) ?_) | (refine bar_f hS ?_) | (refine ld_f hS 0 rfl rfl ?_) | (refine ldA_f hS 0 rfl rfl ?_) | (refine stN_f hS 0 rfl (Nat.le_of_ble_eq_true rfl) rfl rfl ?_; (conv => whnf); intro w1 hS) | (refine stM_f hS 0 rfl (Nat.le_of_ble_eq_true rfl) rfl ?_; (conv => whnf); intro w1 hS) | (refine drawf TB_ok rfl (by kernel_rfl) (by kernel_rfl) hS (List.Sublist.refl _) (List.Sublist.refl _) ?_; intro w1 hS) | (refine br_t (by assumption) ?_) | (refine br_f (by assumption) ?_) | (apply q_i; focus (intro w1 hS; (conv => whnf); first | exact ⟨rfl, rfl⟩ | ((refine ld_f hS 0 rfl rfl ?_); (conv => whnf); exact ⟨rfl, rfl⟩) | ((refine ldA_f hS 0 rfl rfl ?_); (conv => whnf); exact ⟨rfl, rfl⟩))))
    exact ⟨gs, Ls, h1, h2, h3, hS.fr (by simp)⟩
  | true =>
    repeat ((conv => whnf); first | (refine nw_f hS ?_; intro b w1 hS) | (refine as_i hS ?_) | (refine as_i (hS.subs (List.nil_sublist _) (by repeat (first | exact List.Sublist.refl _ | apply List.Sublist.cons_cons | apply List.Sublist.cons))) ?_) | (refine bar_f hS ?_) | (refine ld_f hS 0 rfl rfl ?_) | (refine ldA_f hS 0 rfl rfl ?_) | (refine stN_f hS 0 rfl (Nat.le_of_ble_eq_true rfl) rfl rfl ?_; (conv => whnf); intro w1 hS) | (refine stM_f hS 0 rfl (Nat.le_of_ble_eq_true rfl) rfl ?_; (conv => whnf); intro w1 hS) | (refine drawf TB_ok rfl (by kernel_rfl) (by kernel_rfl) hS (List.Sublist.refl _) (List.Sublist.refl _) ?_; intro w1 hS) | (refine br_t (by assumption) ?_) | (refine br_f (by assumption) ?_) | (apply q_i; focus (intro w1 hS; (conv => whnf); first | exact ⟨rfl, rfl⟩ | ((refine ld_f hS 0 rfl rfl ?_); (conv => whnf); exact ⟨rfl, rfl⟩) | ((refine ldA_f hS 0 rfl rfl ?_); (conv => whnf); exact ⟨rfl, rfl⟩))))
    refine fc_m (at_c f A c xs name _ _ _ (fun a b => sameT a b true) _ (hR.below hS.nil) hn hx hnm hrn (fun x h h2 => ⟨(hD x h h2).1.below hS.nil, (hD x h h2).2.below hS.nil⟩) (fun a b w' ha hb _ => Cv.of_fc (loose_c a b ha hb w'))) ?_
    rintro v w1 ⟨gs, Ls, h1, h2, h3, hS'⟩
    replace hS := hS.callF hS'
    obtain ⟨A2, c2, rfl, h3⟩ := h3.open
    repeat ((conv => whnf); first | (refine nw_f hS ?_; intro b w1 hS) | (refine as_i hS ?_) | (refine as_i (hS.subs (List.nil_sublist _) (by repeat (first | exact List.Sublist.refl _ | apply List.Sublist.cons_cons | apply List.Sublist.cons))) ?_) | (refine bar_f hS ?_) | (refine ld_f hS 0 rfl rfl ?_) | (refine ldA_f hS 0 rfl rfl ?_) | (refine stN_f hS 0 rfl (Nat.le_of_ble_eq_true rfl) rfl rfl ?_; (conv => whnf); intro w1 hS) | (refine stM_f hS 0 rfl (Nat.le_of_ble_eq_true rfl) rfl ?_; (conv => whnf); intro w1 hS) | (refine drawf TB_ok rfl (by kernel_rfl) (by kernel_rfl) hS (List.Sublist.refl _) (List.Sublist.refl _) ?_; intro w1 hS) | (refine br_t (by assumption) ?_) | (refine br_f (by assumption) ?_) | (apply q_i; focus (intro w1 hS; (conv => whnf); first | exact ⟨rfl, rfl⟩ | ((refine ld_f hS 0 rfl rfl ?_); (conv => whnf); exact ⟨rfl, rfl⟩) | ((refine ldA_f hS 0 rfl rfl ?_); (conv => whnf); exact ⟨rfl, rfl⟩))))
    exact ⟨gs, Ls, h1, h2, h3, hS.fr (by simp)⟩
theorem seesT_c (nm vv n v : List UInt8) (dr cf : Bool) (b3 o3 c3 : Nat) (ds : List (Int × Int)) (r k many : Int) (w : World) (hR : Rd w (some ⟨b3, o3, none⟩) (flat encD ds)) (hl : 0 < ds.length)
    (h1 : streq (strY nm) (strY n) = true) (h2 : streq (strY vv) (strY v) = true) (h3 : ((ds.length : Int) == many) = true) (h4 : decide (0 < many) = true) (h5 : (ds[0].1 == r && (ds[0].2 == k && true)) = true)
    (h6 : (dr == streq (strY v) ⟨#[47]⟩) = true) (h7 : (cf == !streq (strY n) ⟨#[110]⟩) = true) :
    Fc Tryd.prog 16 [.agg #[.string (strY nm), .bool dr, .bool cf, .string (strY vv), .slice (some ⟨b3, o3, none⟩) ds.length c3], .string (strY n), .string (strY v), dotV r k, .int .i64 many] w fun v w' => v = .bool true ∧ St [] w w' [] := by
  refine fc_i TB_ok Tryd.func16 rfl (by kernel_rfl) ?_
  have hS := Sf.refl w
  repeat ((conv => whnf); first | (refine nw_f hS ?_; intro b w1 hS) | (refine as_i hS ?_) | (refine as_i (hS.subs (List.nil_sublist _) (by repeat (first | exact List.Sublist.refl _ | apply List.Sublist.cons_cons | apply List.Sublist.cons))) ?_) | (refine bar_f hS ?_) | (refine ld_f hS 0 rfl rfl ?_) | (refine ld_f hS 1 rfl rfl ?_) | (refine ldA_f hS 0 rfl rfl ?_) | (refine ldA_f hS 1 rfl rfl ?_) | (refine stN_f hS 0 rfl (Nat.le_of_ble_eq_true rfl) rfl rfl ?_; (conv => whnf); intro w1 hS) | (refine stN_f hS 1 rfl (Nat.le_of_ble_eq_true rfl) rfl rfl ?_; (conv => whnf); intro w1 hS) | (refine stM_f hS 0 rfl (Nat.le_of_ble_eq_true rfl) rfl ?_; (conv => whnf); intro w1 hS) | (refine stM_f hS 1 rfl (Nat.le_of_ble_eq_true rfl) rfl ?_; (conv => whnf); intro w1 hS) | (refine br_t (by assumption) ?_) | (refine br_f (by assumption) ?_) | (apply q_i; focus (intro w1 hS; (conv => whnf); first | exact ⟨rfl, rfl⟩ | ((refine ld_f hS 0 rfl rfl ?_); (conv => whnf); exact ⟨rfl, rfl⟩) | ((refine ld_f hS 1 rfl rfl ?_); (conv => whnf); exact ⟨rfl, rfl⟩) | ((refine ldA_f hS 0 rfl rfl ?_); (conv => whnf); exact ⟨rfl, rfl⟩) | ((refine ldA_f hS 1 rfl rfl ?_); (conv => whnf); exact ⟨rfl, rfl⟩))))
  refine drawf (Ls := [_, _]) TB_ok rfl (by kernel_rfl) (by kernel_rfl) hS (List.Sublist.refl _) (List.Sublist.refl _) ?_; intro w1 hS
  repeat ((conv => whnf); first | (refine nw_f hS ?_; intro b w1 hS) | (refine as_i hS ?_) | (refine as_i (hS.subs (List.nil_sublist _) (by repeat (first | exact List.Sublist.refl _ | apply List.Sublist.cons_cons | apply List.Sublist.cons))) ?_) | (refine bar_f hS ?_) | (refine ld_f hS 0 rfl rfl ?_) | (refine ld_f hS 1 rfl rfl ?_) | (refine ldA_f hS 0 rfl rfl ?_) | (refine ldA_f hS 1 rfl rfl ?_) | (refine stN_f hS 0 rfl (Nat.le_of_ble_eq_true rfl) rfl rfl ?_; (conv => whnf); intro w1 hS) | (refine stN_f hS 1 rfl (Nat.le_of_ble_eq_true rfl) rfl rfl ?_; (conv => whnf); intro w1 hS) | (refine stM_f hS 0 rfl (Nat.le_of_ble_eq_true rfl) rfl ?_; (conv => whnf); intro w1 hS) | (refine stM_f hS 1 rfl (Nat.le_of_ble_eq_true rfl) rfl ?_; (conv => whnf); intro w1 hS) | (refine .mk ⟨by omega, by omega⟩ ?_; refine ix_i rfl ?_) | (refine ldN_el encD_len (hR.below hS.nil).at (i := 0) hl rfl rfl ?_) | (refine eqPDot _ _ _ _ ?_; rw [h5]) | (refine drawf TB_ok rfl (by kernel_rfl) (by kernel_rfl) hS (List.Sublist.refl _) (List.Sublist.refl _) ?_; intro w1 hS) | (refine br_t (by assumption) ?_) | (refine br_f (by assumption) ?_) | (apply q_i; focus (intro w1 hS; (conv => whnf); first | exact ⟨rfl, rfl⟩ | ((refine ld_f hS 0 rfl rfl ?_); (conv => whnf); exact ⟨rfl, rfl⟩) | ((refine ld_f hS 1 rfl rfl ?_); (conv => whnf); exact ⟨rfl, rfl⟩) | ((refine ldA_f hS 0 rfl rfl ?_); (conv => whnf); exact ⟨rfl, rfl⟩) | ((refine ldA_f hS 1 rfl rfl ?_); (conv => whnf); exact ⟨rfl, rfl⟩) | ((refine .mk ⟨by omega, by omega⟩ ?_; refine ix_i rfl ?_); (conv => whnf); exact ⟨rfl, rfl⟩) | ((refine ldN_el encD_len (hR.below hS.nil).at (i := 0) hl rfl rfl ?_); (conv => whnf); exact ⟨rfl, rfl⟩) | ((refine eqPDot _ _ _ _ ?_; rw [h5]); (conv => whnf); exact ⟨rfl, rfl⟩))))
  exact ⟨congrArg Value.bool h7, hS.nil⟩
theorem two_gs {gs : List Gx} {v0 v1 : List UInt8} {d0 d1 : List (Int × Int)} (h : gs.map gp = [(v0, d0), (v1, d1)]) : ∃ A0 c0 L0 A1 c1 L1, gs = [⟨v0, d0, A0, c0, L0⟩, ⟨v1, d1, A1, c1, L1⟩] := by
  match gs, h with
  | [⟨a, b, A0, c0, L0⟩, ⟨c, d, A1, c1, L1⟩], h =>
    simp [gp] at h
    obtain ⟨⟨rfl, rfl⟩, rfl, rfl⟩ := h
    exact ⟨A0, c0, L0, A1, c1, L1, rfl⟩
theorem itoa1 (i : Nat) (h : i < 10) : Lib.itoa i = [UInt8.ofNat (48 + i)] := by
  rw [Lib.itoa, if_neg (by omega), Int.toNat_natCast, Lib.decDigits, dif_pos h]
theorem conf12 : confT [110] 1 2 = [110, 126, 49, 46, 50] := by
  have h1 := itoa1 1 (by decide)
  have h2 := itoa1 2 (by decide)
  unfold confT
  rw [if_pos (by decide +kernel), show (1 : Int) = ((1 : Nat) : Int) from rfl, show (2 : Int) = ((2 : Nat) : Int) from rfl, h1, h2]
  decide
theorem works_c (w : World) : Fc Tryd.prog 7 [] w fun v w' => v = .bool true ∧ St [] w w' [] := by
  refine fc_i TB_ok Tryd.func7 rfl (by kernel_rfl) ?_
  have hS := Sf.refl w
  repeat ((conv => whnf); first | (refine nw_f hS ?_; intro b w1 hS) | (refine as_i hS ?_) | (refine as_i (hS.subs (List.nil_sublist _) (by repeat (first | exact List.Sublist.refl _ | apply List.Sublist.cons_cons | apply List.Sublist.cons))) ?_) | (refine bar_f hS ?_) | (refine drawf TB_ok rfl (by kernel_rfl) (by kernel_rfl) hS (List.Sublist.refl _) (List.Sublist.refl _) ?_; intro w1 hS) | (refine br_t (by assumption) ?_) | (refine br_f (by assumption) ?_) | (apply q_i; focus (intro w1 hS; (conv => whnf); first | exact ⟨rfl, rfl⟩)))
  refine fc_m (given_c _) ?_
  rintro v w1 ⟨bg, rfl, hS'⟩
  replace hS := hS.call' hS'
  repeat ((conv => whnf); first | (refine nw_f hS ?_; intro b w1 hS) | (refine as_i hS ?_) | (refine as_i (hS.subs (List.nil_sublist _) (by repeat (first | exact List.Sublist.refl _ | apply List.Sublist.cons_cons | apply List.Sublist.cons))) ?_) | (refine bar_f hS ?_) | (refine drawf TB_ok rfl (by kernel_rfl) (by kernel_rfl) hS (List.Sublist.refl _) (List.Sublist.refl _) ?_; intro w1 hS) | (refine br_t (by assumption) ?_) | (refine br_f (by assumption) ?_) | (apply q_i; focus (intro w1 hS; (conv => whnf); first | exact ⟨rfl, rfl⟩)))
  refine fc_m (lawAt_c givenF (some ⟨bg, 0, none⟩) 3 givenX [110] false _ (show Rd _ _ (flat encX givenX) from hS.rd 0 rfl) (by decide) (by decide) (by decide) (by decide) (fun x hx _ => ?_)) ?_
  · have : x.r.toNat < 100 ∧ 0 ≤ x.r ∧ x.n.toNat < 100 ∧ 0 ≤ x.n := by
      simp [givenX] at hx
      rcases hx with rfl | rfl | rfl <;> decide
    have e1 : x.r = (x.r.toNat : Int) := by omega
    have e2 : x.n = (x.n.toNat : Int) := by omega
    rw [e1, e2]
    exact ⟨digs_small _ _ this.1, digs_small _ _ this.2.2.1⟩
  rintro v w2 ⟨gs, Ls, hgs, hok, hv, hS'⟩
  replace hS := hS.callF hS'
  obtain ⟨A2, c2, rfl, hv⟩ := hv.open
  obtain ⟨A0, k0, L0, A1, k1, L1, rfl⟩ := two_gs (hgs.trans (show grps (alikeB fun a b => sameT a b false) givenX = [([97], [(2, 2), (0, 1)]), ([98], [(1, 2)])] from by decide +kernel))
  have hse : seenOf [110] [⟨[97], [(2, 2), (0, 1)], A0, k0, L0⟩, ⟨[98], [(1, 2)], A1, k1, L1⟩] = [⟨[110], false, false, ⟨[97], [(2, 2), (0, 1)], A0, k0, L0⟩⟩, ⟨[110, 126, 49, 46, 50], false, true, ⟨[98], [(1, 2)], A1, k1, L1⟩⟩] := by
    rw [← conf12]
    rfl
  rw [hse] at hv ⊢
  have r0 : Rd w2 A0 (flat encD [(2, 2), (0, 1)]) := (hok ⟨[97], [(2, 2), (0, 1)], A0, k0, L0⟩ (by simp)).rd hS.st (fun x hx => by have hx : x ∈ L0 := hx; simp [gsL, hx])
  have r1 : Rd w2 A1 (flat encD [(1, 2)]) := (hok ⟨[98], [(1, 2)], A1, k1, L1⟩ (by simp)).rd hS.st (fun x hx => by have hx : x ∈ L1 := hx; simp [gsL, hx])
  obtain ⟨b0, o0, rfl⟩ := r0.form (by simp [flat, encD])
  obtain ⟨b1, o1, rfl⟩ := r1.form (by simp [flat, encD])
  replace hS : Sf [] w w2 (Ls ++ (gsL _ ++ [])) _ := ⟨by simpa using hS.st⟩
  obtain ⟨x2, o2, rfl⟩ := (hv.rdF hS).form (by simp [flat, encSn])
  have hRs := hv.rdF hS
  generalize hL : [(⟨[110], false, false, ⟨[97], [(2, 2), (0, 1)], some ⟨b0, o0, none⟩, k0, L0⟩⟩ : Sn), ⟨[110, 126, 49, 46, 50], false, true, ⟨[98], [(1, 2)], some ⟨b1, o1, none⟩, k1, L1⟩⟩] = ll at *
  have hll : ll.length = 2 := by rw [← hL]; rfl
  have q0 : ((ll.length : Int) == 2) = true := by rw [hll]; rfl
  have hc0 : ∀ w', St [] w2 w' [] → Fc Tryd.prog 16 [.agg #[.string (strY [110]), .bool false, .bool false, .string (strY [97]), .slice (some ⟨b0, o0, none⟩) 2 k0], .string (strY [110]), .string (strY [97]), dotV 2 2, .int .i64 2] w' fun v w'' => v = .bool true ∧ St [] w' w'' [] := fun w' h =>
    seesT_c [110] [97] [110] [97] false false b0 o0 k0 [(2, 2), (0, 1)] 2 2 2 w' (r0.below h) (by decide) (lit_eq _ rfl) (lit_eq _ rfl) rfl rfl rfl (by decide +kernel) (by decide +kernel)
  have hc1 : ∀ w', St [] w2 w' [] → Fc Tryd.prog 16 [.agg #[.string (strY [110, 126, 49, 46, 50]), .bool false, .bool true, .string (strY [98]), .slice (some ⟨b1, o1, none⟩) 1 k1], .string (strY [110, 126, 49, 46, 50]), .string (strY [98]), dotV 1 2, .int .i64 1] w' fun v w'' => v = .bool true ∧ St [] w' w'' [] := fun w' h =>
    seesT_c [110, 126, 49, 46, 50] [98] [110, 126, 49, 46, 50] [98] false true b1 o1 k1 [(1, 2)] 1 2 1 w' (r1.below h) (by decide) (lit_eq _ rfl) (lit_eq _ rfl) rfl rfl rfl (by decide +kernel) (by decide +kernel)
  have k0l : 0 < ll.length := by omega
  have k1l : 1 < ll.length := by omega
  have e0 : ((encSn (ll[0]'k0l)).drop 0).take 5 = [.string (strY [110]), .bool false, .bool false, .string (strY [97]), .slice (some ⟨b0, o0, none⟩) 2 k0] := by subst hL; rfl
  have e1 : ((encSn (ll[1]'k1l)).drop 0).take 5 = [.string (strY [110, 126, 49, 46, 50]), .bool false, .bool true, .string (strY [98]), .slice (some ⟨b1, o1, none⟩) 1 k1] := by subst hL; rfl
  repeat ((conv => whnf); first | (refine nw_f hS ?_; intro b w1 hS) | (refine as_i hS ?_) | (refine as_i (hS.subs (List.nil_sublist _) (by repeat (first | exact List.Sublist.refl _ | apply List.Sublist.cons_cons | apply List.Sublist.cons))) ?_) | (refine bar_f hS ?_) | (refine ld_f hS 0 rfl rfl ?_) | (refine ldA_f hS 0 rfl rfl ?_) | (refine stN_f hS 0 rfl (Nat.le_of_ble_eq_true rfl) rfl rfl ?_; (conv => whnf); intro w1 hS) | (refine stM_f hS 0 rfl (Nat.le_of_ble_eq_true rfl) rfl ?_; (conv => whnf); intro w1 hS) | (refine .mk ⟨by omega, by omega⟩ ?_; refine ix_i rfl ?_) | (refine ldN_elp encSn_len (hv.rdF hS).at (i := 0) (j0 := 0) k0l rfl (Nat.le_of_ble_eq_true rfl) _ e0 ?_) | (refine ldN_elp encSn_len (hv.rdF hS).at (i := 1) (j0 := 0) k1l rfl (Nat.le_of_ble_eq_true rfl) _ e1 ?_) | (refine drawf TB_ok rfl (by kernel_rfl) (by kernel_rfl) hS (List.Sublist.refl _) (List.Sublist.refl _) ?_; intro w1 hS) | (refine br_t (by assumption) ?_) | (refine br_f (by assumption) ?_) | (apply q_i; focus (intro w1 hS; (conv => whnf); first | exact ⟨rfl, rfl⟩ | ((refine ld_f hS 0 rfl rfl ?_); (conv => whnf); exact ⟨rfl, rfl⟩) | ((refine ldA_f hS 0 rfl rfl ?_); (conv => whnf); exact ⟨rfl, rfl⟩) | ((refine .mk ⟨by omega, by omega⟩ ?_; refine ix_i rfl ?_); (conv => whnf); exact ⟨rfl, rfl⟩) | ((refine ldN_elp encSn_len (hv.rdF hS).at (i := 0) (j0 := 0) k0l rfl (Nat.le_of_ble_eq_true rfl) _ e0 ?_); (conv => whnf); exact ⟨rfl, rfl⟩) | ((refine ldN_elp encSn_len (hv.rdF hS).at (i := 1) (j0 := 0) k1l rfl (Nat.le_of_ble_eq_true rfl) _ e1 ?_); (conv => whnf); exact ⟨rfl, rfl⟩))))
  refine fc_m (hc0 _ (St.refl _)) ?_; rintro v w3 ⟨rfl, hS1⟩; replace hS := hS.call0 hS1
  repeat ((conv => whnf); first | (refine nw_f hS ?_; intro b w1 hS) | (refine as_i hS ?_) | (refine as_i (hS.subs (List.nil_sublist _) (by repeat (first | exact List.Sublist.refl _ | apply List.Sublist.cons_cons | apply List.Sublist.cons))) ?_) | (refine bar_f hS ?_) | (refine ld_f hS 0 rfl rfl ?_) | (refine ldA_f hS 0 rfl rfl ?_) | (refine stN_f hS 0 rfl (Nat.le_of_ble_eq_true rfl) rfl rfl ?_; (conv => whnf); intro w1 hS) | (refine stM_f hS 0 rfl (Nat.le_of_ble_eq_true rfl) rfl ?_; (conv => whnf); intro w1 hS) | (refine .mk ⟨by omega, by omega⟩ ?_; refine ix_i rfl ?_) | (refine ldN_elp encSn_len (hv.rdF hS).at (i := 0) (j0 := 0) k0l rfl (Nat.le_of_ble_eq_true rfl) _ e0 ?_) | (refine ldN_elp encSn_len (hv.rdF hS).at (i := 1) (j0 := 0) k1l rfl (Nat.le_of_ble_eq_true rfl) _ e1 ?_) | (refine drawf TB_ok rfl (by kernel_rfl) (by kernel_rfl) hS (List.Sublist.refl _) (List.Sublist.refl _) ?_; intro w1 hS) | (refine br_t (by assumption) ?_) | (refine br_f (by assumption) ?_) | (apply q_i; focus (intro w1 hS; (conv => whnf); first | exact ⟨rfl, rfl⟩ | ((refine ld_f hS 0 rfl rfl ?_); (conv => whnf); exact ⟨rfl, rfl⟩) | ((refine ldA_f hS 0 rfl rfl ?_); (conv => whnf); exact ⟨rfl, rfl⟩) | ((refine .mk ⟨by omega, by omega⟩ ?_; refine ix_i rfl ?_); (conv => whnf); exact ⟨rfl, rfl⟩) | ((refine ldN_elp encSn_len (hv.rdF hS).at (i := 0) (j0 := 0) k0l rfl (Nat.le_of_ble_eq_true rfl) _ e0 ?_); (conv => whnf); exact ⟨rfl, rfl⟩) | ((refine ldN_elp encSn_len (hv.rdF hS).at (i := 1) (j0 := 0) k1l rfl (Nat.le_of_ble_eq_true rfl) _ e1 ?_); (conv => whnf); exact ⟨rfl, rfl⟩))))
  refine fc_m (hc1 _ hS1) ?_; rintro v w4 ⟨rfl, hS2⟩; replace hS := hS.call0 hS2
  repeat ((conv => whnf); first | (refine nw_f hS ?_; intro b w1 hS) | (refine as_i hS ?_) | (refine as_i (hS.subs (List.nil_sublist _) (by repeat (first | exact List.Sublist.refl _ | apply List.Sublist.cons_cons | apply List.Sublist.cons))) ?_) | (refine bar_f hS ?_) | (refine ld_f hS 0 rfl rfl ?_) | (refine ldA_f hS 0 rfl rfl ?_) | (refine stN_f hS 0 rfl (Nat.le_of_ble_eq_true rfl) rfl rfl ?_; (conv => whnf); intro w1 hS) | (refine stM_f hS 0 rfl (Nat.le_of_ble_eq_true rfl) rfl ?_; (conv => whnf); intro w1 hS) | (refine drawf TB_ok rfl (by kernel_rfl) (by kernel_rfl) hS (List.Sublist.refl _) (List.Sublist.refl _) ?_; intro w1 hS) | (refine br_t (by assumption) ?_) | (refine br_f (by assumption) ?_) | (apply q_i; focus (intro w1 hS; (conv => whnf); first | exact ⟨rfl, rfl⟩ | ((refine ld_f hS 0 rfl rfl ?_); (conv => whnf); exact ⟨rfl, rfl⟩) | ((refine ldA_f hS 0 rfl rfl ?_); (conv => whnf); exact ⟨rfl, rfl⟩))))
  exact ⟨rfl, hS.nil⟩
end Go.RV
