/- Texts of mine, packed for a claim (bundle.py). Conditions: none. -/
import Derived.Test.YtlebdkdjjegpgaaGreatK5x3
set_option maxRecDepth 20000
set_option linter.unusedVariables false
set_option linter.unusedSimpArgs false
namespace Go.RV
open Go Go.Proofs Go.RowKit

def arr3 (a b c : Int) : Value := .agg #[.int .u32 a, .int .u32 b, .int .u32 c]
def l3 (a b c : Int) : Nat → Int
  | 0 => a
  | 1 => b
  | _ => c
theorem eqI3 {P : Program} {e : TypeId} (he : P.underlying e = some (.int .u32)) (hc : P.cellsOf e = 1) (a b c d f g : Int) (w : World) : ∀ (is : List Nat), (∀ i ∈ is, i < 3) → (Op.eqItems 9999 e (P.cellsOf e) #[.int .u32 a, .int .u32 b, .int .u32 c] #[.int .u32 d, .int .u32 f, .int .u32 g] is).run P w = .ok (is.all fun j => l3 a b c j == l3 d f g j) w
  | [], _ => by simp [Op.eqItems]
  | i :: is, h => by
    have hi : i < 3 := h i (by simp)
    have ih := eqI3 he hc a b c d f g w is (fun j hj => h j (by simp [hj]))
    have h1 := EqF.int (P := P) (t := e) (k := .u32) (a := l3 a b c i) (b := l3 d f g i) he 9998 w
    have g3 : ∀ a b c : Int, (#[Value.int .u32 a, .int .u32 b, .int .u32 c] : Array Value)[i * P.cellsOf e]? = some (.int .u32 (l3 a b c i)) := fun a b c => by
      rw [hc, Nat.mul_one]
      rcases (show i = 0 ∨ i = 1 ∨ i = 2 by omega) with rfl | rfl | rfl <;> rfl
    simp only [Op.eqItems, Sem.run_bind, part_plain h1.2 (g3 a b c), part_plain h1.2 (g3 d f g), h1.1, Result.andThen_ok]
    cases hq : l3 a b c i == l3 d f g i
    · simp [hq]
    · simpa [hq] using ih
theorem eqA3 (a b c d f g : Int) (w : World) : (Op.equalIn 10000 33 (arr3 a b c) (arr3 d f g)).run Tryz.prog w = .ok (eq3 a b c d f g) w := by
  unfold arr3
  rw [run_equalIn_array w 9999 _ _ Tryz.underlying33 inf32, eqI3 Tryz.underlying32 (by kernel_rfl) a b c d f g w (List.range 3) (by simp)]
  simp [List.range, List.range.loop, l3, eq3]
theorem eqArr3 (a b c d f g : Int) {ox oy : Operand} {w : World} {K : Value → World → Prop} (k : K (.bool (eq3 a b c d f g)) w) :
    SemN Tryz.prog (do eqGuard .eql 33 ox oy (arr3 a b c) (arr3 d f g); binOp .eql 33 (arr3 a b c) (arr3 d f g)) w K := by
  refine ⟨SemW.of_run (a := .bool (eq3 a b c d f g)) (w' := w) ?_ k⟩
  unfold arr3
  rw [Sem.run_bind, run_eqGuard_agg w .eql _ ox oy _ _ (by kernel_rfl), Result.andThen_ok, run_eql_struct]
  have := eqA3 a b c d f g w
  unfold arr3 at this
  rw [this, Result.andThen_ok]
theorem neArr3 (a b c d f g : Int) {ox oy : Operand} {w : World} {K : Value → World → Prop} (k : K (.bool (!eq3 a b c d f g)) w) :
    SemN Tryz.prog (do eqGuard .neq 33 ox oy (arr3 a b c) (arr3 d f g); binOp .neq 33 (arr3 a b c) (arr3 d f g)) w K := by
  refine ⟨SemW.of_run (a := .bool (!eq3 a b c d f g)) (w' := w) ?_ k⟩
  unfold arr3
  rw [Sem.run_bind, run_eqGuard_agg w .neq _ ox oy _ _ (by kernel_rfl), Result.andThen_ok, run_neq_struct]
  have := eqA3 a b c d f g w
  unfold arr3 at this
  rw [this, Result.andThen_ok]
def polV (a b c : Int) : Value := .agg #[.int .u8 a, .int .u32 b, .int .i64 c]
theorem eqPolF (a b c d f g : Int) (w : World) : (Op.eqFields 9999 #[.int .u8 a, .int .u32 b, .int .i64 c] #[.int .u8 d, .int .u32 f, .int .i64 g] (Tryz.prog.fieldsOf 35).toList).run Tryz.prog w = .ok (eq3 a b c d f g) w := by
  simp only [Program.fieldsOf, Tryz.underlying35]
  exact eqF_cons (d := 9998) rfl rfl rfl (.int Tryz.underlying5) (eqF_cons rfl rfl rfl (.int Tryz.underlying32) (eqF_cons rfl rfl rfl (.int Tryz.underlying3) eqF_nil))
theorem fieldsPol : Tryz.prog.underlying 35 = some (.struct (Tryz.prog.fieldsOf 35)) := by
  unfold Program.fieldsOf
  rw [Tryz.underlying35]
theorem eqPol (a b c d f g : Int) {ox oy : Operand} {w : World} {K : Value → World → Prop} (k : K (.bool (eq3 a b c d f g)) w) :
    SemN Tryz.prog (do eqGuard .eql 35 ox oy (polV a b c) (polV d f g); binOp .eql 35 (polV a b c) (polV d f g)) w K :=
  eqS_i (by kernel_rfl) fieldsPol (by kernel_rfl) (eqPolF a b c d f g w) k
theorem nePol (a b c d f g : Int) {ox oy : Operand} {w : World} {K : Value → World → Prop} (k : K (.bool (!eq3 a b c d f g)) w) :
    SemN Tryz.prog (do eqGuard .neq 35 ox oy (polV a b c) (polV d f g); binOp .neq 35 (polV a b c) (polV d f g)) w K :=
  neS_i (by kernel_rfl) fieldsPol (by kernel_rfl) (eqPolF a b c d f g w) k
def chV (a b c d : Int) : Value := .agg #[.int .u32 a, .int .i64 b, .int .i64 c, .int .i64 d]
theorem eqChF (a b c d a2 b2 c2 d2 : Int) (w : World) : (Op.eqFields 9999 #[.int .u32 a, .int .i64 b, .int .i64 c, .int .i64 d] #[.int .u32 a2, .int .i64 b2, .int .i64 c2, .int .i64 d2] (Tryz.prog.fieldsOf 47).toList).run Tryz.prog w = .ok (eq4 a b c d a2 b2 c2 d2) w := by
  simp only [Program.fieldsOf, Tryz.underlying47]
  exact eqF_cons (d := 9998) rfl rfl rfl (.int Tryz.underlying32) (eqF_cons rfl rfl rfl (.int Tryz.underlying3) (eqF_cons rfl rfl rfl (.int Tryz.underlying3) (eqF_cons rfl rfl rfl (.int Tryz.underlying3) eqF_nil)))
theorem fieldsCh : Tryz.prog.underlying 47 = some (.struct (Tryz.prog.fieldsOf 47)) := by
  unfold Program.fieldsOf
  rw [Tryz.underlying47]
theorem eqCh (a b c d a2 b2 c2 d2 : Int) {ox oy : Operand} {w : World} {K : Value → World → Prop} (k : K (.bool (eq4 a b c d a2 b2 c2 d2)) w) :
    SemN Tryz.prog (do eqGuard .eql 47 ox oy (chV a b c d) (chV a2 b2 c2 d2); binOp .eql 47 (chV a b c d) (chV a2 b2 c2 d2)) w K :=
  eqS_i (by kernel_rfl) fieldsCh (by kernel_rfl) (eqChF a b c d a2 b2 c2 d2 w) k
theorem eqRChF (a b c d a2 b2 c2 d2 : Int) (w : World) : (Op.eqFields 9999 #[.int .u32 a, .int .i64 b, .int .i64 c, .int .i64 d] #[.int .u32 a2, .int .i64 b2, .int .i64 c2, .int .i64 d2] (Tryz.prog.fieldsOf 61).toList).run Tryz.prog w = .ok (eq4 a b c d a2 b2 c2 d2) w := by
  simp only [Program.fieldsOf, Tryz.underlying61]
  exact eqF_cons (d := 9998) rfl rfl rfl (.int Tryz.underlying32) (eqF_cons rfl rfl rfl (.int Tryz.underlying3) (eqF_cons rfl rfl rfl (.int Tryz.underlying3) (eqF_cons rfl rfl rfl (.int Tryz.underlying3) eqF_nil)))
theorem fieldsRCh : Tryz.prog.underlying 61 = some (.struct (Tryz.prog.fieldsOf 61)) := by
  unfold Program.fieldsOf
  rw [Tryz.underlying61]
theorem neRCh (a b c d a2 b2 c2 d2 : Int) {ox oy : Operand} {w : World} {K : Value → World → Prop} (k : K (.bool (!eq4 a b c d a2 b2 c2 d2)) w) :
    SemN Tryz.prog (do eqGuard .neq 61 ox oy (chV a b c d) (chV a2 b2 c2 d2); binOp .neq 61 (chV a b c d) (chV a2 b2 c2 d2)) w K :=
  neS_i (by kernel_rfl) fieldsRCh (by kernel_rfl) (eqRChF a b c d a2 b2 c2 d2 w) k

theorem sameCl_c (x y : Sm) (w : World) (hx : Rd w x.A (flat encU x.s.v.ks)) (hy : Rd w y.A (flat encU y.s.v.ks)) (hl : x.s.v.ks.length ≤ 4611686018427387904) :
    Fc Tryz.prog 37 [.agg (encM x).toArray, .agg (encM y).toArray] w fun v w' => v = .bool (sameS x.s y.s) ∧ St [] w w' [] := by
  refine fc_i TB_ok Tryz.func37 rfl (by kernel_rfl) ?_
  have hS := Sf.refl w
  repeat' ((conv => whnf); first | refine And.intro ?_ ?_ | (apply q_i; focus (intro w1 hS; (conv => whnf); first | exact ⟨rfl, rfl⟩ | ((first | refine ld_f hS 0 rfl rfl ?_ | refine ld_f hS 1 rfl rfl ?_ | refine ldA_f hS 0 rfl rfl ?_ | refine ldA_f hS 1 rfl rfl ?_); (conv => whnf); exact ⟨rfl, rfl⟩) | ((refine ldN_f hS 0 rfl (lb9 rfl) ?_); (conv => whnf); exact ⟨rfl, rfl⟩) | ((refine ldN_f hS 1 rfl (lb9 rfl) ?_); (conv => whnf); exact ⟨rfl, rfl⟩) | ((refine eqDot x.s.r x.s.n y.s.r y.s.n ?_); (conv => whnf); exact ⟨rfl, rfl⟩) | ((refine br_i (fun _ => ?_) (fun _ => ?_)); (conv => whnf); exact ⟨rfl, rfl⟩))) | (refine nw_f hS ?_; intro b w1 hS) | refine as_i hS ?_ | refine as_i (hS.subs (List.nil_sublist _) sb9) ?_ | refine as_i (hS.subs (List.Sublist.refl _) sb9) ?_ | refine bar_f hS ?_ | refine ld_f hS 0 rfl rfl ?_ | refine ld_f hS 1 rfl rfl ?_ | refine ldA_f hS 0 rfl rfl ?_ | refine ldA_f hS 1 rfl rfl ?_ | ((first | refine stN_f hS 0 rfl (lb9 rfl) rfl rfl ?_ | refine stN_f hS 1 rfl (lb9 rfl) rfl rfl ?_ | refine stM_f hS 0 rfl (lb9 rfl) rfl ?_ | refine stM_f hS 1 rfl (lb9 rfl) rfl ?_); (conv => whnf); intro w1 hS) | refine ldN_f hS 0 rfl (lb9 rfl) ?_ | refine ldN_f hS 1 rfl (lb9 rfl) ?_ | refine eqDot x.s.r x.s.n y.s.r y.s.n ?_ | (refine fc_m (same_c _ _ _ _ x.s.v.ks _ _ _ _ y.s.v.ks _ (hx.below hS.nil) (hy.below hS.nil) hl) ?_; rintro v w3 ⟨rfl, hS'⟩; replace hS := hS.call0 hS') | (refine br_i (fun _ => ?_) (fun _ => ?_)) | (refine dr9 hS ?_; intro w1 hS) | refine br_t (by assumption) ?_ | refine br_f (by assumption) ?_)
  all_goals first
    | exact hS.nil
    | (simp only [sameS, sameV, *]; rfl)
theorem sameSs_take : ∀ (xs ys : List Sv) (i : Nat) (hx : i < xs.length) (hy : i < ys.length), sameSs (xs.take (i + 1)) (ys.take (i + 1)) = (sameSs (xs.take i) (ys.take i) && sameS xs[i] ys[i])
  | x :: xs, y :: ys, 0, _, _ => by simp [sameSs]
  | x :: xs, y :: ys, i + 1, hx, hy => by
    have := sameSs_take xs ys i (by simpa using hx) (by simpa using hy)
    simp only [List.take_succ_cons, sameSs, List.getElem_cons_succ]
    rw [this, Bool.and_assoc]
theorem sameSs_no : ∀ (xs ys : List Sv), xs.length ≠ ys.length → sameSs xs ys = false
  | [], [], h => absurd rfl h
  | [], _ :: _, _ => rfl
  | _ :: _, [], _ => rfl
  | x :: xs, y :: ys, h => by
    rw [sameSs, sameSs_no xs ys (by simpa using h), Bool.and_false]
theorem sameSs_at : ∀ (xs ys : List Sv) (i : Nat) (hx : i < xs.length) (hy : i < ys.length), sameS xs[i] ys[i] = false → sameSs xs ys = false
  | x :: xs, y :: ys, 0, _, _, h => by rw [sameSs]; simp only [List.getElem_cons_zero] at h; rw [h]; rfl
  | x :: xs, y :: ys, i + 1, hx, hy, h => by
    rw [sameSs, sameSs_at xs ys i (by simpa using hx) (by simpa using hy) (by simpa using h), Bool.and_false]
theorem equalM_c (A B : Option Addr) (c e : Nat) (xs ys : List Sm) (w : World) (hx : RdM w A xs) (hy : RdM w B ys) (hl : xs.length ≤ 4611686018427387904) (hk : ∀ x ∈ xs, x.s.v.ks.length ≤ 4611686018427387904) :
    Fc Tryz.prog 39 [.slice A xs.length c, .slice B ys.length e, .func (.func 37) #[] #[]] w fun v w' => v = .bool (sameSs (xs.map Sm.s) (ys.map Sm.s)) ∧ St [] w w' [] := by
  refine fc_i TB_ok Tryz.func39 rfl (by kernel_rfl) ?_
  have hS := Sf.refl w
  repeat ((conv => whnf); first | (apply q_i; focus (intro w1 hS; (conv => whnf); first | exact ⟨rfl, rfl⟩)) | (refine nw_f hS ?_; intro b w1 hS) | refine as_i hS ?_ | refine as_i (hS.subs (List.nil_sublist _) sb9) ?_ | refine as_i (hS.subs (List.Sublist.refl _) sb9) ?_ | refine bar_f hS ?_ | (refine dr9 hS ?_; intro w1 hS) | refine br_t (by assumption) ?_ | refine br_f (by assumption) ?_)
  refine br_i (fun h0 => ?_) (fun h0 => ?_)
  · have hne : xs.length ≠ ys.length := by
      intro he
      rw [he] at h0
      simp at h0
    repeat ((conv => whnf); first | (apply q_i; focus (intro w1 hS; (conv => whnf); first | exact ⟨rfl, rfl⟩)) | (refine nw_f hS ?_; intro b w1 hS) | refine as_i hS ?_ | refine as_i (hS.subs (List.nil_sublist _) sb9) ?_ | refine as_i (hS.subs (List.Sublist.refl _) sb9) ?_ | refine bar_f hS ?_ | (refine dr9 hS ?_; intro w1 hS) | refine br_t (by assumption) ?_ | refine br_f (by assumption) ?_)
    exact ⟨by rw [sameSs_no _ _ (by simpa using hne)], hS.nil⟩
  have hll : xs.length = ys.length := by simp at h0; omega
  repeat ((conv => whnf); first | (apply q_i; focus (intro w1 hS; (conv => whnf); first | exact ⟨rfl, rfl⟩)) | (refine nw_f hS ?_; intro b w1 hS) | refine as_i hS ?_ | refine as_i (hS.subs (List.nil_sublist _) sb9) ?_ | refine as_i (hS.subs (List.Sublist.refl _) sb9) ?_ | refine bar_f hS ?_ | (refine dr9 hS ?_; intro w1 hS) | refine br_t (by assumption) ?_ | refine br_f (by assumption) ?_)
  refine loop_i TB_ok (fun i : Nat => [(17, .int .i64 i)]) (fun i w' => i ≤ xs.length ∧ sameSs ((xs.map Sm.s).take i) ((ys.map Sm.s).take i) = true ∧ Sf [] w w' [] []) (fun i => xs.length - i) 0 rfl ⟨Nat.zero_le _, by simp [sameSs], hS⟩ ?_
  rintro i us w2 ⟨hi, hsm, hS⟩
  (conv => whnf)
  refine br_i (fun hb => ?_) (fun hb => ?_)
  · have hlt : i < xs.length := by have := of_decide_eq_true hb; omega
    have hlt2 : i < ys.length := by omega
    have hg := fun h h2 => sameSs_at (xs.map Sm.s) (ys.map Sm.s) i h h2
    have ht := sameSs_take (xs.map Sm.s) (ys.map Sm.s) i (by simpa using hlt) (by simpa using hlt2)
    simp only [List.getElem_map] at hg ht
    obtain ⟨b, off, rfl⟩ := hx.rd.form (flat_ne encM_len (by omega) hlt)
    obtain ⟨b2, off2, rfl⟩ := hy.rd.form (flat_ne encM_len (by omega) hlt2)
    have hcl := fun (w' : World) => sameCl_c xs[i] ys[i] w'
    have hki := hk _ (List.getElem_mem hlt)
    cases hq : sameS xs[i].s ys[i].s with
    | true =>
      rw [hq] at hcl ht
      repeat ((conv => whnf); first | (apply q_i; focus (intro w1 hS; (conv => whnf); first | exact ⟨rfl, rfl⟩ | ((first | refine ld_f hS 0 rfl rfl ?_ | refine ld_f hS 1 rfl rfl ?_ | refine ldA_f hS 0 rfl rfl ?_ | refine ldA_f hS 1 rfl rfl ?_); (conv => whnf); exact ⟨rfl, rfl⟩) | ((refine .mk ⟨by omega, by omega⟩ ?_; refine ix_i rfl ?_); (conv => whnf); exact ⟨rfl, rfl⟩) | ((refine ldN_el encM_len (hx.rd.below hS.nil).at (i := i) hlt rfl rfl ?_); (conv => whnf); exact ⟨rfl, rfl⟩) | ((refine ldN_el encM_len (hy.rd.below hS.nil).at (i := i) hlt2 rfl rfl ?_); (conv => whnf); exact ⟨rfl, rfl⟩))) | (refine nw_f hS ?_; intro b w1 hS) | refine as_i hS ?_ | refine as_i (hS.subs (List.nil_sublist _) sb9) ?_ | refine as_i (hS.subs (List.Sublist.refl _) sb9) ?_ | refine bar_f hS ?_ | refine ld_f hS 0 rfl rfl ?_ | refine ld_f hS 1 rfl rfl ?_ | refine ldA_f hS 0 rfl rfl ?_ | refine ldA_f hS 1 rfl rfl ?_ | ((first | refine stN_f hS 0 rfl (lb9 rfl) rfl rfl ?_ | refine stN_f hS 1 rfl (lb9 rfl) rfl rfl ?_ | refine stM_f hS 0 rfl (lb9 rfl) rfl ?_ | refine stM_f hS 1 rfl (lb9 rfl) rfl ?_); (conv => whnf); intro w1 hS) | (refine .mk ⟨by omega, by omega⟩ ?_; refine ix_i rfl ?_) | refine ldN_el encM_len (hx.rd.below hS.nil).at (i := i) hlt rfl rfl ?_ | refine ldN_el encM_len (hy.rd.below hS.nil).at (i := i) hlt2 rfl rfl ?_ | (refine fc_m (hcl _ ((hx.el _ (List.getElem_mem hlt)).below hS.nil) ((hy.el _ (List.getElem_mem hlt2)).below hS.nil) hki) ?_; rintro v w3 ⟨rfl, hS'⟩; replace hS := hS.call0 hS') | (refine dr9 hS ?_; intro w1 hS) | refine br_t (by assumption) ?_ | refine br_f (by assumption) ?_)
      refine ⟨rfl, i + 1, ?_, ⟨by omega, by rw [ht, hsm]; rfl, hS.subs (List.Sublist.refl _) (List.nil_sublist _)⟩, by omega⟩
      rw [wi hlt (by omega)]
      rfl
    | false =>
      rw [hq] at hcl
      repeat ((conv => whnf); first | (apply q_i; focus (intro w1 hS; (conv => whnf); first | exact ⟨rfl, rfl⟩ | ((first | refine ld_f hS 0 rfl rfl ?_ | refine ld_f hS 1 rfl rfl ?_ | refine ldA_f hS 0 rfl rfl ?_ | refine ldA_f hS 1 rfl rfl ?_); (conv => whnf); exact ⟨rfl, rfl⟩) | ((refine .mk ⟨by omega, by omega⟩ ?_; refine ix_i rfl ?_); (conv => whnf); exact ⟨rfl, rfl⟩) | ((refine ldN_el encM_len (hx.rd.below hS.nil).at (i := i) hlt rfl rfl ?_); (conv => whnf); exact ⟨rfl, rfl⟩) | ((refine ldN_el encM_len (hy.rd.below hS.nil).at (i := i) hlt2 rfl rfl ?_); (conv => whnf); exact ⟨rfl, rfl⟩))) | (refine nw_f hS ?_; intro b w1 hS) | refine as_i hS ?_ | refine as_i (hS.subs (List.nil_sublist _) sb9) ?_ | refine as_i (hS.subs (List.Sublist.refl _) sb9) ?_ | refine bar_f hS ?_ | refine ld_f hS 0 rfl rfl ?_ | refine ld_f hS 1 rfl rfl ?_ | refine ldA_f hS 0 rfl rfl ?_ | refine ldA_f hS 1 rfl rfl ?_ | ((first | refine stN_f hS 0 rfl (lb9 rfl) rfl rfl ?_ | refine stN_f hS 1 rfl (lb9 rfl) rfl rfl ?_ | refine stM_f hS 0 rfl (lb9 rfl) rfl ?_ | refine stM_f hS 1 rfl (lb9 rfl) rfl ?_); (conv => whnf); intro w1 hS) | (refine .mk ⟨by omega, by omega⟩ ?_; refine ix_i rfl ?_) | refine ldN_el encM_len (hx.rd.below hS.nil).at (i := i) hlt rfl rfl ?_ | refine ldN_el encM_len (hy.rd.below hS.nil).at (i := i) hlt2 rfl rfl ?_ | (refine fc_m (hcl _ ((hx.el _ (List.getElem_mem hlt)).below hS.nil) ((hy.el _ (List.getElem_mem hlt2)).below hS.nil) hki) ?_; rintro v w3 ⟨rfl, hS'⟩; replace hS := hS.call0 hS') | (refine dr9 hS ?_; intro w1 hS) | refine br_t (by assumption) ?_ | refine br_f (by assumption) ?_)
      exact ⟨by rw [hg (by simpa using hlt) (by simpa using hlt2) hq], hS.nil⟩
  · have hge : i = xs.length := by have := of_decide_eq_false hb; omega
    rw [List.take_of_length_le (by simp; omega), List.take_of_length_le (by simp; omega)] at hsm
    repeat ((conv => whnf); first | (apply q_i; focus (intro w1 hS; (conv => whnf); first | exact ⟨rfl, rfl⟩)) | (refine nw_f hS ?_; intro b w1 hS) | refine as_i hS ?_ | refine as_i (hS.subs (List.nil_sublist _) sb9) ?_ | refine as_i (hS.subs (List.Sublist.refl _) sb9) ?_ | refine bar_f hS ?_ | (refine dr9 hS ?_; intro w1 hS) | refine br_t (by assumption) ?_ | refine br_f (by assumption) ?_)
    exact ⟨by rw [hsm], hS.nil⟩
set_option maxHeartbeats 4000000 in
theorem sameR_c (x y : Rx) (h : Hd) (k : Hd) (ms ns : List Sm) (w : World) (hx : MemR w x h ms) (hy : MemR w y k ns) (hl : x.xs.length ≤ 1073741824) (he : ∀ s ∈ x.xs, s.v.ks.length ≤ 1073741824) (hv : x.v.ks.length ≤ 1073741824) :
    Fc Tryz.prog 14 [recV x h, recV y k] w fun v w' => v = .bool (sameR x y) ∧ St [] w w' [] := by
  have heq : ∀ w', RdM w' h.A ms → RdM w' k.A ns → Fc Tryz.prog 39 [.slice h.A x.xs.length h.c, .slice k.A y.xs.length k.c, .func (.func 37) #[] #[]] w' fun v w'' => v = .bool (sameSs x.xs y.xs) ∧ St [] w' w'' [] := fun w' p q => by
    have := equalM_c h.A k.A h.c k.c ms ns w' p q (by rw [← hx.len]; omega) (fun m hm => by have := he m.s (by rw [hx.eq]; exact List.mem_map_of_mem hm); omega)
    rwa [← hx.eq, ← hy.eq, ← hx.len, ← hy.len] at this
  have hsp := (streq_strY x.p y.p).symm
  refine fc_i TB_ok Tryz.func14 rfl (by kernel_rfl) ?_
  have hS := Sf.refl w
  repeat' ((conv => whnf); first | refine And.intro ?_ ?_ | (apply q_i; focus (intro w1 hS; (conv => whnf); first | exact ⟨rfl, rfl⟩ | ((first | refine ld_f hS 0 rfl rfl ?_ | refine ld_f hS 1 rfl rfl ?_ | refine ld_f hS 2 rfl rfl ?_ | refine ld_f hS 3 rfl rfl ?_ | refine ldA_f hS 0 rfl rfl ?_ | refine ldA_f hS 1 rfl rfl ?_ | refine ldA_f hS 2 rfl rfl ?_ | refine ldA_f hS 3 rfl rfl ?_); (conv => whnf); exact ⟨rfl, rfl⟩) | ((refine ldN_f hS 0 rfl (lb9 rfl) ?_); (conv => whnf); exact ⟨rfl, rfl⟩) | ((refine ldN_f hS 1 rfl (lb9 rfl) ?_); (conv => whnf); exact ⟨rfl, rfl⟩) | ((refine ldN_f hS 2 rfl (lb9 rfl) ?_); (conv => whnf); exact ⟨rfl, rfl⟩) | ((refine ldN_f hS 3 rfl (lb9 rfl) ?_); (conv => whnf); exact ⟨rfl, rfl⟩) | ((refine eqArr3 x.n0 x.n1 x.n2 y.n0 y.n1 y.n2 ?_); (conv => whnf); exact ⟨rfl, rfl⟩) | ((refine eqPol x.rk x.ra x.rq y.rk y.ra y.rq ?_); (conv => whnf); exact ⟨rfl, rfl⟩) | ((refine eqVec x.f y.f ?_); (conv => whnf); exact ⟨rfl, rfl⟩) | ((refine eqVec x.g y.g ?_); (conv => whnf); exact ⟨rfl, rfl⟩) | ((refine eqCh x.ci x.cb x.cr x.cs y.ci y.cb y.cr y.cs ?_); (conv => whnf); exact ⟨rfl, rfl⟩) | ((refine br_i (fun _ => ?_) (fun _ => ?_)); (conv => whnf); exact ⟨rfl, rfl⟩))) | (refine nw_f hS ?_; intro b w1 hS) | refine as_i hS ?_ | refine as_i (hS.subs (List.nil_sublist _) sb9) ?_ | refine as_i (hS.subs (List.Sublist.refl _) sb9) ?_ | refine bar_f hS ?_ | refine ld_f hS 0 rfl rfl ?_ | refine ld_f hS 1 rfl rfl ?_ | refine ld_f hS 2 rfl rfl ?_ | refine ld_f hS 3 rfl rfl ?_ | refine ldA_f hS 0 rfl rfl ?_ | refine ldA_f hS 1 rfl rfl ?_ | refine ldA_f hS 2 rfl rfl ?_ | refine ldA_f hS 3 rfl rfl ?_ | ((first | refine stN_f hS 0 rfl (lb9 rfl) rfl rfl ?_ | refine stN_f hS 1 rfl (lb9 rfl) rfl rfl ?_ | refine stN_f hS 2 rfl (lb9 rfl) rfl rfl ?_ | refine stN_f hS 3 rfl (lb9 rfl) rfl rfl ?_ | refine stM_f hS 0 rfl (lb9 rfl) rfl ?_ | refine stM_f hS 1 rfl (lb9 rfl) rfl ?_ | refine stM_f hS 2 rfl (lb9 rfl) rfl ?_ | refine stM_f hS 3 rfl (lb9 rfl) rfl ?_); (conv => whnf); intro w1 hS) | refine ldN_f hS 0 rfl (lb9 rfl) ?_ | refine ldN_f hS 1 rfl (lb9 rfl) ?_ | refine ldN_f hS 2 rfl (lb9 rfl) ?_ | refine ldN_f hS 3 rfl (lb9 rfl) ?_ | refine eqArr3 x.n0 x.n1 x.n2 y.n0 y.n1 y.n2 ?_ | refine eqPol x.rk x.ra x.rq y.rk y.ra y.rq ?_ | refine eqVec x.f y.f ?_ | (refine fc_m (heq _ (hx.l.below hS.nil) (hy.l.below hS.nil)) ?_; rintro v w3 ⟨rfl, hS'⟩; replace hS := hS.call0 hS') | (refine fc_m (same_c _ _ _ _ x.v.ks _ _ _ _ y.v.ks _ (hx.v.below hS.nil) (hy.v.below hS.nil) (by omega)) ?_; rintro v w3 ⟨rfl, hS'⟩; replace hS := hS.call0 hS') | refine eqVec x.g y.g ?_ | refine eqCh x.ci x.cb x.cr x.cs y.ci y.cb y.cr y.cs ?_ | (refine br_i (fun _ => ?_) (fun _ => ?_)) | (refine dr9 hS ?_; intro w1 hS) | refine br_t (by assumption) ?_ | refine br_f (by assumption) ?_)
  all_goals first
    | exact hS.nil
    | (simp only [sameR, sameV, *]; rfl)
end Go.RV


set_option maxRecDepth 20000
set_option linter.unusedVariables false
set_option linter.unusedSimpArgs false
namespace Go.RV
open Go Go.Proofs Go.RowKit

def TellsM (w : World) (f : Value) (p : Sm → Bool) (xs : List Sm) : Prop := ∀ x ∈ xs, ∀ w', St [] w w' [] → Cv Tryz.prog f [.agg (encM x).toArray] w' fun v w'' => v = .bool (p x) ∧ St [] w' w'' []
def dotM (m : Sm) : Sc := dotC m.s
theorem checkM_iff (f : Nat → Int) (xs : List Sm) : checkS f (xs.map Sm.s) = true ↔ mayVB f = true ∧ xs.length ≤ 8 ∧ ∀ j (h : j < xs.length), hasB f xs[j].s.r xs[j].s.n = true ∧ ∀ h0 : 0 < j, lessC (dotM (xs[j - 1]'(by omega))) (dotM xs[j]) = true := by
  have e : (xs.map Sm.s).map dotC = xs.map dotM := by rw [List.map_map]; rfl
  unfold checkS
  rw [e, checkC_iff]
  simp only [List.length_map, okAtC, List.getElem_map]
  constructor
  · rintro ⟨h1, h2, h3⟩
    exact ⟨h1, h2, fun j hj => h3 j hj hj⟩
  · rintro ⟨h1, h2, h3⟩
    exact ⟨h1, h2, fun j hj hj2 => h3 j hj2⟩
theorem ord_lessM (a b : Sm) : decide (0 ≤ ordI a.s.r a.s.n b.s.r b.s.n) = !lessC (dotM a) (dotM b) := ord_lessC (dotM a) (dotM b)
theorem scheckM_c (f : Nat → Int) (hf : ∀ j, j < 8 → 0 ≤ f j ∧ f j ≤ 4294967295) (A : Option Addr) (c : Nat) (xs : List Sm) (w : World) (hR : Rd w A (flat encM xs)) (hn : xs.length ≤ 4611686018427387904) (hr : ∀ x ∈ xs, 0 ≤ x.s.r) :
    Fc Tryz.prog 100 [regV f A xs.length c] w fun v w' => v = .int .i64 (if checkS f (xs.map Sm.s) then 0 else 4) ∧ St [] w w' [] := by
  refine fc_i TB_ok Tryz.func100 rfl (by kernel_rfl) ?_
  have hS := Sf.refl w
  have hput := fun w => put_c f hf w
  have hci := checkM_iff f xs
  cases hm : mayVB f with
  | false =>
    rw [hm] at hput
    have hc : checkS f (xs.map Sm.s) = false := by unfold checkS checkC; rw [hm]; rfl
    rw [hc]
    repeat ((conv => whnf); first | (apply q_i; focus (intro w1 hS; (conv => whnf); first | exact ⟨rfl, rfl⟩ | ((first | refine ld_f hS 0 rfl rfl ?_ | refine ldA_f hS 0 rfl rfl ?_); (conv => whnf); exact ⟨rfl, rfl⟩) | ((refine ldN_f hS 0 rfl (lb9 rfl) ?_); (conv => whnf); exact ⟨rfl, rfl⟩))) | (refine nw_f hS ?_; intro b w1 hS) | refine as_i hS ?_ | refine as_i (hS.subs (List.nil_sublist _) sb9) ?_ | refine as_i (hS.subs (List.Sublist.refl _) sb9) ?_ | refine bar_f hS ?_ | refine ld_f hS 0 rfl rfl ?_ | refine ldA_f hS 0 rfl rfl ?_ | ((first | refine stN_f hS 0 rfl (lb9 rfl) rfl rfl ?_ | refine stM_f hS 0 rfl (lb9 rfl) rfl ?_); (conv => whnf); intro w1 hS) | refine ldN_f hS 0 rfl (lb9 rfl) ?_ | (refine fc_m (hput _) ?_; rintro v w3 ⟨rfl, hS'⟩; replace hS := hS.call0 hS') | (refine dr9 hS ?_; intro w1 hS) | refine br_t (by assumption) ?_ | refine br_f (by assumption) ?_)
    exact ⟨rfl, hS.nil⟩
  | true =>
    rw [hm] at hput
    by_cases h8 : 8 < xs.length
    · have g8 : decide ((8 : Int) < (xs.length : Int)) = true := decide_eq_true (by omega)
      have hc : checkS f (xs.map Sm.s) = false := by
        cases hc : checkS f (xs.map Sm.s) with
        | false => rfl
        | true => have := (hci.1 hc).2.1; omega
      rw [hc]
      repeat ((conv => whnf); first | (apply q_i; focus (intro w1 hS; (conv => whnf); first | exact ⟨rfl, rfl⟩ | ((first | refine ld_f hS 0 rfl rfl ?_ | refine ldA_f hS 0 rfl rfl ?_); (conv => whnf); exact ⟨rfl, rfl⟩) | ((refine ldN_f hS 0 rfl (lb9 rfl) ?_); (conv => whnf); exact ⟨rfl, rfl⟩))) | (refine nw_f hS ?_; intro b w1 hS) | refine as_i hS ?_ | refine as_i (hS.subs (List.nil_sublist _) sb9) ?_ | refine as_i (hS.subs (List.Sublist.refl _) sb9) ?_ | refine bar_f hS ?_ | refine ld_f hS 0 rfl rfl ?_ | refine ldA_f hS 0 rfl rfl ?_ | ((first | refine stN_f hS 0 rfl (lb9 rfl) rfl rfl ?_ | refine stM_f hS 0 rfl (lb9 rfl) rfl ?_); (conv => whnf); intro w1 hS) | refine ldN_f hS 0 rfl (lb9 rfl) ?_ | (refine fc_m (hput _) ?_; rintro v w3 ⟨rfl, hS'⟩; replace hS := hS.call0 hS') | (refine dr9 hS ?_; intro w1 hS) | refine br_t (by assumption) ?_ | refine br_f (by assumption) ?_)
      exact ⟨rfl, hS.nil⟩
    · have g8 : decide ((8 : Int) < (xs.length : Int)) = false := decide_eq_false (by omega)
      repeat ((conv => whnf); first | (apply q_i; focus (intro w1 hS; (conv => whnf); first | exact ⟨rfl, rfl⟩ | ((first | refine ld_f hS 0 rfl rfl ?_ | refine ldA_f hS 0 rfl rfl ?_); (conv => whnf); exact ⟨rfl, rfl⟩) | ((refine ldN_f hS 0 rfl (lb9 rfl) ?_); (conv => whnf); exact ⟨rfl, rfl⟩))) | (refine nw_f hS ?_; intro b w1 hS) | refine as_i hS ?_ | refine as_i (hS.subs (List.nil_sublist _) sb9) ?_ | refine as_i (hS.subs (List.Sublist.refl _) sb9) ?_ | refine bar_f hS ?_ | refine ld_f hS 0 rfl rfl ?_ | refine ldA_f hS 0 rfl rfl ?_ | ((first | refine stN_f hS 0 rfl (lb9 rfl) rfl rfl ?_ | refine stM_f hS 0 rfl (lb9 rfl) rfl ?_); (conv => whnf); intro w1 hS) | refine ldN_f hS 0 rfl (lb9 rfl) ?_ | (refine fc_m (hput _) ?_; rintro v w3 ⟨rfl, hS'⟩; replace hS := hS.call0 hS') | (refine dr9 hS ?_; intro w1 hS) | refine br_t (by assumption) ?_ | refine br_f (by assumption) ?_)
      refine loop_i TB_ok (fun i : Nat => [(24, .int .i64 i)]) (fun i w' => i ≤ xs.length ∧ (∀ j, j < i → ∀ h : j < xs.length, hasB f xs[j].s.r xs[j].s.n = true ∧ ∀ h0 : 0 < j, lessC (dotM (xs[j - 1]'(by omega))) (dotM xs[j]) = true) ∧ Sf [] w w' [] [_]) (fun i => xs.length - i) 0 rfl ⟨Nat.zero_le _, fun j h => by omega, hS⟩ ?_
      rintro i us w2 ⟨hi, hj, hS⟩
      by_cases hlt : i < xs.length
      · have h1 : decide ((i : Int) < (xs.length : Int)) = true := decide_eq_true (by omega)
        obtain ⟨x, off, rfl⟩ := hR.form (flat_ne encM_len (by omega) hlt)
        have hh := fun w => has_c f xs[i].s.r xs[i].s.n (hr _ (List.getElem_mem hlt)) w
        have bad : ¬ (hasB f xs[i].s.r xs[i].s.n = true ∧ ∀ h0 : 0 < i, lessC (dotM (xs[i - 1]'(by omega))) (dotM xs[i]) = true) → checkS f (xs.map Sm.s) = false := fun h => by
          cases hc : checkS f (xs.map Sm.s) with
          | false => rfl
          | true => exact absurd ((hci.1 hc).2.2 i hlt) h
        cases hb : hasB f xs[i].s.r xs[i].s.n with
        | false =>
          rw [hb] at hh
          rw [bad (fun h => by have := h.1; rw [hb] at this; cases this)]
          repeat ((conv => whnf); first | (apply q_i; focus (intro w1 hS; (conv => whnf); first | exact ⟨rfl, rfl⟩ | ((first | refine ld_f hS 0 rfl rfl ?_ | refine ld_f hS 1 rfl rfl ?_ | refine ldA_f hS 0 rfl rfl ?_ | refine ldA_f hS 1 rfl rfl ?_); (conv => whnf); exact ⟨rfl, rfl⟩) | ((refine .mk ⟨by omega, by omega⟩ ?_; refine ix_i rfl ?_); (conv => whnf); exact ⟨rfl, rfl⟩) | ((refine ldN_el encM_len (hR.below hS.nil).at (i := i) hlt rfl rfl ?_); (conv => whnf); exact ⟨rfl, rfl⟩))) | (refine nw_f hS ?_; intro b w1 hS) | refine as_i hS ?_ | refine as_i (hS.subs (List.nil_sublist _) sb9) ?_ | refine as_i (hS.subs (List.Sublist.refl _) sb9) ?_ | refine bar_f hS ?_ | refine ld_f hS 0 rfl rfl ?_ | refine ld_f hS 1 rfl rfl ?_ | refine ldA_f hS 0 rfl rfl ?_ | refine ldA_f hS 1 rfl rfl ?_ | ((first | refine stN_f hS 0 rfl (lb9 rfl) rfl rfl ?_ | refine stN_f hS 1 rfl (lb9 rfl) rfl rfl ?_ | refine stM_f hS 0 rfl (lb9 rfl) rfl ?_ | refine stM_f hS 1 rfl (lb9 rfl) rfl ?_); (conv => whnf); intro w1 hS) | (refine .mk ⟨by omega, by omega⟩ ?_; refine ix_i rfl ?_) | refine ldN_el encM_len (hR.below hS.nil).at (i := i) hlt rfl rfl ?_ | refine br_t (by assumption) ?_ | refine br_f (by assumption) ?_)
          refine drawf (Ls := [_, _]) TB_ok rfl (by kernel_rfl) (by kernel_rfl) hS (List.Sublist.refl _) (List.Sublist.refl _) ?_; intro w1 hS
          repeat ((conv => whnf); first | (apply q_i; focus (intro w1 hS; (conv => whnf); first | exact ⟨rfl, rfl⟩ | ((first | refine ld_f hS 0 rfl rfl ?_ | refine ld_f hS 1 rfl rfl ?_ | refine ldA_f hS 0 rfl rfl ?_ | refine ldA_f hS 1 rfl rfl ?_); (conv => whnf); exact ⟨rfl, rfl⟩) | ((refine ldN_f hS 0 rfl (lb9 rfl) ?_); (conv => whnf); exact ⟨rfl, rfl⟩) | ((refine ldN_f hS 1 rfl (lb9 rfl) ?_); (conv => whnf); exact ⟨rfl, rfl⟩))) | (refine nw_f hS ?_; intro b w1 hS) | refine as_i hS ?_ | refine as_i (hS.subs (List.nil_sublist _) sb9) ?_ | refine as_i (hS.subs (List.Sublist.refl _) sb9) ?_ | refine bar_f hS ?_ | refine ld_f hS 0 rfl rfl ?_ | refine ld_f hS 1 rfl rfl ?_ | refine ldA_f hS 0 rfl rfl ?_ | refine ldA_f hS 1 rfl rfl ?_ | ((first | refine stN_f hS 0 rfl (lb9 rfl) rfl rfl ?_ | refine stN_f hS 1 rfl (lb9 rfl) rfl rfl ?_ | refine stM_f hS 0 rfl (lb9 rfl) rfl ?_ | refine stM_f hS 1 rfl (lb9 rfl) rfl ?_); (conv => whnf); intro w1 hS) | refine ldN_f hS 0 rfl (lb9 rfl) ?_ | refine ldN_f hS 1 rfl (lb9 rfl) ?_ | (refine fc_m (hh _) ?_; rintro v w3 ⟨rfl, hS'⟩; replace hS := hS.call0 hS') | (refine dr9 hS ?_; intro w1 hS) | refine br_t (by assumption) ?_ | refine br_f (by assumption) ?_)
          exact ⟨rfl, hS.nil⟩
        | true =>
          rw [hb] at hh
          by_cases h0 : 0 < i
          · have g0 : decide ((0 : Int) < (i : Int)) = true := decide_eq_true (by omega)
            have hw : IntKind.i64.wrap ((i : Int) - 1) = (i : Int) - 1 := wrap_i64 (by omega) (by omega)
            have hlt1 : i - 1 < xs.length := by omega
            have hol := ord_lessM xs[i - 1] xs[i]
            cases hl : lessC (dotM xs[i - 1]) (dotM xs[i]) with
            | false =>
              rw [hl] at hol
              rw [bad (fun h => by have := h.2 h0; rw [hl] at this; cases this)]
              repeat ((conv => whnf); first | (apply q_i; focus (intro w1 hS; (conv => whnf); first | exact ⟨rfl, rfl⟩ | ((first | refine ld_f hS 0 rfl rfl ?_ | refine ld_f hS 1 rfl rfl ?_ | refine ldA_f hS 0 rfl rfl ?_ | refine ldA_f hS 1 rfl rfl ?_); (conv => whnf); exact ⟨rfl, rfl⟩) | ((refine .mk ⟨by omega, by omega⟩ ?_; refine ix_i rfl ?_); (conv => whnf); exact ⟨rfl, rfl⟩) | ((refine ldN_el encM_len (hR.below hS.nil).at (i := i) hlt rfl rfl ?_); (conv => whnf); exact ⟨rfl, rfl⟩))) | (refine nw_f hS ?_; intro b w1 hS) | refine as_i hS ?_ | refine as_i (hS.subs (List.nil_sublist _) sb9) ?_ | refine as_i (hS.subs (List.Sublist.refl _) sb9) ?_ | refine bar_f hS ?_ | refine ld_f hS 0 rfl rfl ?_ | refine ld_f hS 1 rfl rfl ?_ | refine ldA_f hS 0 rfl rfl ?_ | refine ldA_f hS 1 rfl rfl ?_ | ((first | refine stN_f hS 0 rfl (lb9 rfl) rfl rfl ?_ | refine stN_f hS 1 rfl (lb9 rfl) rfl rfl ?_ | refine stM_f hS 0 rfl (lb9 rfl) rfl ?_ | refine stM_f hS 1 rfl (lb9 rfl) rfl ?_); (conv => whnf); intro w1 hS) | (refine .mk ⟨by omega, by omega⟩ ?_; refine ix_i rfl ?_) | refine ldN_el encM_len (hR.below hS.nil).at (i := i) hlt rfl rfl ?_ | refine br_t (by assumption) ?_ | refine br_f (by assumption) ?_)
              refine drawf (Ls := [_, _]) TB_ok rfl (by kernel_rfl) (by kernel_rfl) hS (List.Sublist.refl _) (List.Sublist.refl _) ?_; intro w1 hS
              repeat ((conv => whnf); first | (apply q_i; focus (intro w1 hS; (conv => whnf); first | exact ⟨rfl, rfl⟩ | ((first | refine ld_f hS 0 rfl rfl ?_ | refine ld_f hS 1 rfl rfl ?_ | refine ldA_f hS 0 rfl rfl ?_ | refine ldA_f hS 1 rfl rfl ?_); (conv => whnf); exact ⟨rfl, rfl⟩) | ((refine ldN_f hS 0 rfl (lb9 rfl) ?_); (conv => whnf); exact ⟨rfl, rfl⟩) | ((refine ldN_f hS 1 rfl (lb9 rfl) ?_); (conv => whnf); exact ⟨rfl, rfl⟩) | ((refine .mk ⟨by omega, by omega⟩ ?_; refine ix_i rfl ?_); (conv => whnf); exact ⟨rfl, rfl⟩) | ((refine ldN_elp encM_len (hR.below hS.nil).at (i := i - 1) (j0 := 0) hlt1 (by show off + (IntKind.i64.wrap ((i : Int) - 1)).toNat * 5 = off + (i - 1) * 5 + 0; omega) (lb9 rfl) [.int .u8 xs[i - 1].s.r, .int .u32 xs[i - 1].s.n] rfl ?_); (conv => whnf); exact ⟨rfl, rfl⟩))) | (refine nw_f hS ?_; intro b w1 hS) | refine as_i hS ?_ | refine as_i (hS.subs (List.nil_sublist _) sb9) ?_ | refine as_i (hS.subs (List.Sublist.refl _) sb9) ?_ | refine bar_f hS ?_ | refine ld_f hS 0 rfl rfl ?_ | refine ld_f hS 1 rfl rfl ?_ | refine ldA_f hS 0 rfl rfl ?_ | refine ldA_f hS 1 rfl rfl ?_ | ((first | refine stN_f hS 0 rfl (lb9 rfl) rfl rfl ?_ | refine stN_f hS 1 rfl (lb9 rfl) rfl rfl ?_ | refine stM_f hS 0 rfl (lb9 rfl) rfl ?_ | refine stM_f hS 1 rfl (lb9 rfl) rfl ?_); (conv => whnf); intro w1 hS) | refine ldN_f hS 0 rfl (lb9 rfl) ?_ | refine ldN_f hS 1 rfl (lb9 rfl) ?_ | (refine fc_m (hh _) ?_; rintro v w3 ⟨rfl, hS'⟩; replace hS := hS.call0 hS') | (refine .mk ⟨by omega, by omega⟩ ?_; refine ix_i rfl ?_) | (refine ldN_elp encM_len (hR.below hS.nil).at (i := i - 1) (j0 := 0) hlt1 (by show off + (IntKind.i64.wrap ((i : Int) - 1)).toNat * 5 = off + (i - 1) * 5 + 0; omega) (lb9 rfl) [.int .u8 xs[i - 1].s.r, .int .u32 xs[i - 1].s.n] rfl ?_) | (refine fc_m (order_c _ _ _ _ _) ?_; rintro v w3 ⟨rfl, hS'⟩; replace hS := hS.call0 hS') | (refine dr9 hS ?_; intro w1 hS) | refine br_t (by assumption) ?_ | refine br_f (by assumption) ?_)
              exact ⟨rfl, hS.nil⟩
            | true =>
              rw [hl] at hol
              repeat ((conv => whnf); first | (apply q_i; focus (intro w1 hS; (conv => whnf); first | exact ⟨rfl, rfl⟩ | ((first | refine ld_f hS 0 rfl rfl ?_ | refine ld_f hS 1 rfl rfl ?_ | refine ldA_f hS 0 rfl rfl ?_ | refine ldA_f hS 1 rfl rfl ?_); (conv => whnf); exact ⟨rfl, rfl⟩) | ((refine .mk ⟨by omega, by omega⟩ ?_; refine ix_i rfl ?_); (conv => whnf); exact ⟨rfl, rfl⟩) | ((refine ldN_el encM_len (hR.below hS.nil).at (i := i) hlt rfl rfl ?_); (conv => whnf); exact ⟨rfl, rfl⟩))) | (refine nw_f hS ?_; intro b w1 hS) | refine as_i hS ?_ | refine as_i (hS.subs (List.nil_sublist _) sb9) ?_ | refine as_i (hS.subs (List.Sublist.refl _) sb9) ?_ | refine bar_f hS ?_ | refine ld_f hS 0 rfl rfl ?_ | refine ld_f hS 1 rfl rfl ?_ | refine ldA_f hS 0 rfl rfl ?_ | refine ldA_f hS 1 rfl rfl ?_ | ((first | refine stN_f hS 0 rfl (lb9 rfl) rfl rfl ?_ | refine stN_f hS 1 rfl (lb9 rfl) rfl rfl ?_ | refine stM_f hS 0 rfl (lb9 rfl) rfl ?_ | refine stM_f hS 1 rfl (lb9 rfl) rfl ?_); (conv => whnf); intro w1 hS) | (refine .mk ⟨by omega, by omega⟩ ?_; refine ix_i rfl ?_) | refine ldN_el encM_len (hR.below hS.nil).at (i := i) hlt rfl rfl ?_ | refine br_t (by assumption) ?_ | refine br_f (by assumption) ?_)
              refine drawf (Ls := [_, _]) TB_ok rfl (by kernel_rfl) (by kernel_rfl) hS (List.Sublist.refl _) (List.Sublist.refl _) ?_; intro w1 hS
              repeat ((conv => whnf); first | (apply q_i; focus (intro w1 hS; (conv => whnf); first | exact ⟨rfl, rfl⟩ | ((first | refine ld_f hS 0 rfl rfl ?_ | refine ld_f hS 1 rfl rfl ?_ | refine ldA_f hS 0 rfl rfl ?_ | refine ldA_f hS 1 rfl rfl ?_); (conv => whnf); exact ⟨rfl, rfl⟩) | ((refine ldN_f hS 0 rfl (lb9 rfl) ?_); (conv => whnf); exact ⟨rfl, rfl⟩) | ((refine ldN_f hS 1 rfl (lb9 rfl) ?_); (conv => whnf); exact ⟨rfl, rfl⟩) | ((refine .mk ⟨by omega, by omega⟩ ?_; refine ix_i rfl ?_); (conv => whnf); exact ⟨rfl, rfl⟩) | ((refine ldN_elp encM_len (hR.below hS.nil).at (i := i - 1) (j0 := 0) hlt1 (by show off + (IntKind.i64.wrap ((i : Int) - 1)).toNat * 5 = off + (i - 1) * 5 + 0; omega) (lb9 rfl) [.int .u8 xs[i - 1].s.r, .int .u32 xs[i - 1].s.n] rfl ?_); (conv => whnf); exact ⟨rfl, rfl⟩))) | (refine nw_f hS ?_; intro b w1 hS) | refine as_i hS ?_ | refine as_i (hS.subs (List.nil_sublist _) sb9) ?_ | refine as_i (hS.subs (List.Sublist.refl _) sb9) ?_ | refine bar_f hS ?_ | refine ld_f hS 0 rfl rfl ?_ | refine ld_f hS 1 rfl rfl ?_ | refine ldA_f hS 0 rfl rfl ?_ | refine ldA_f hS 1 rfl rfl ?_ | ((first | refine stN_f hS 0 rfl (lb9 rfl) rfl rfl ?_ | refine stN_f hS 1 rfl (lb9 rfl) rfl rfl ?_ | refine stM_f hS 0 rfl (lb9 rfl) rfl ?_ | refine stM_f hS 1 rfl (lb9 rfl) rfl ?_); (conv => whnf); intro w1 hS) | refine ldN_f hS 0 rfl (lb9 rfl) ?_ | refine ldN_f hS 1 rfl (lb9 rfl) ?_ | (refine fc_m (hh _) ?_; rintro v w3 ⟨rfl, hS'⟩; replace hS := hS.call0 hS') | (refine .mk ⟨by omega, by omega⟩ ?_; refine ix_i rfl ?_) | (refine ldN_elp encM_len (hR.below hS.nil).at (i := i - 1) (j0 := 0) hlt1 (by show off + (IntKind.i64.wrap ((i : Int) - 1)).toNat * 5 = off + (i - 1) * 5 + 0; omega) (lb9 rfl) [.int .u8 xs[i - 1].s.r, .int .u32 xs[i - 1].s.n] rfl ?_) | (refine fc_m (order_c _ _ _ _ _) ?_; rintro v w3 ⟨rfl, hS'⟩; replace hS := hS.call0 hS') | (refine dr9 hS ?_; intro w1 hS) | refine br_t (by assumption) ?_ | refine br_f (by assumption) ?_)
              refine ⟨rfl, i + 1, ?_, ⟨by omega, fun j h => ?_, hS.subs (List.Sublist.refl _) (.cons _ (.refl _))⟩, by omega⟩
              · rw [wi hlt (by omega)]
                rfl
              · by_cases e : j = i
                · subst e; exact fun _ => ⟨hb, fun _ => hl⟩
                · exact hj j (by omega)
          · have g0 : decide ((0 : Int) < (i : Int)) = false := decide_eq_false (by omega)
            repeat ((conv => whnf); first | (apply q_i; focus (intro w1 hS; (conv => whnf); first | exact ⟨rfl, rfl⟩ | ((first | refine ld_f hS 0 rfl rfl ?_ | refine ld_f hS 1 rfl rfl ?_ | refine ldA_f hS 0 rfl rfl ?_ | refine ldA_f hS 1 rfl rfl ?_); (conv => whnf); exact ⟨rfl, rfl⟩) | ((refine .mk ⟨by omega, by omega⟩ ?_; refine ix_i rfl ?_); (conv => whnf); exact ⟨rfl, rfl⟩) | ((refine ldN_el encM_len (hR.below hS.nil).at (i := i) hlt rfl rfl ?_); (conv => whnf); exact ⟨rfl, rfl⟩))) | (refine nw_f hS ?_; intro b w1 hS) | refine as_i hS ?_ | refine as_i (hS.subs (List.nil_sublist _) sb9) ?_ | refine as_i (hS.subs (List.Sublist.refl _) sb9) ?_ | refine bar_f hS ?_ | refine ld_f hS 0 rfl rfl ?_ | refine ld_f hS 1 rfl rfl ?_ | refine ldA_f hS 0 rfl rfl ?_ | refine ldA_f hS 1 rfl rfl ?_ | ((first | refine stN_f hS 0 rfl (lb9 rfl) rfl rfl ?_ | refine stN_f hS 1 rfl (lb9 rfl) rfl rfl ?_ | refine stM_f hS 0 rfl (lb9 rfl) rfl ?_ | refine stM_f hS 1 rfl (lb9 rfl) rfl ?_); (conv => whnf); intro w1 hS) | (refine .mk ⟨by omega, by omega⟩ ?_; refine ix_i rfl ?_) | refine ldN_el encM_len (hR.below hS.nil).at (i := i) hlt rfl rfl ?_ | refine br_t (by assumption) ?_ | refine br_f (by assumption) ?_)
            refine drawf (Ls := [_, _]) TB_ok rfl (by kernel_rfl) (by kernel_rfl) hS (List.Sublist.refl _) (List.Sublist.refl _) ?_; intro w1 hS
            repeat ((conv => whnf); first | (apply q_i; focus (intro w1 hS; (conv => whnf); first | exact ⟨rfl, rfl⟩ | ((first | refine ld_f hS 0 rfl rfl ?_ | refine ld_f hS 1 rfl rfl ?_ | refine ldA_f hS 0 rfl rfl ?_ | refine ldA_f hS 1 rfl rfl ?_); (conv => whnf); exact ⟨rfl, rfl⟩) | ((refine ldN_f hS 0 rfl (lb9 rfl) ?_); (conv => whnf); exact ⟨rfl, rfl⟩) | ((refine ldN_f hS 1 rfl (lb9 rfl) ?_); (conv => whnf); exact ⟨rfl, rfl⟩))) | (refine nw_f hS ?_; intro b w1 hS) | refine as_i hS ?_ | refine as_i (hS.subs (List.nil_sublist _) sb9) ?_ | refine as_i (hS.subs (List.Sublist.refl _) sb9) ?_ | refine bar_f hS ?_ | refine ld_f hS 0 rfl rfl ?_ | refine ld_f hS 1 rfl rfl ?_ | refine ldA_f hS 0 rfl rfl ?_ | refine ldA_f hS 1 rfl rfl ?_ | ((first | refine stN_f hS 0 rfl (lb9 rfl) rfl rfl ?_ | refine stN_f hS 1 rfl (lb9 rfl) rfl rfl ?_ | refine stM_f hS 0 rfl (lb9 rfl) rfl ?_ | refine stM_f hS 1 rfl (lb9 rfl) rfl ?_); (conv => whnf); intro w1 hS) | refine ldN_f hS 0 rfl (lb9 rfl) ?_ | refine ldN_f hS 1 rfl (lb9 rfl) ?_ | (refine fc_m (hh _) ?_; rintro v w3 ⟨rfl, hS'⟩; replace hS := hS.call0 hS') | (refine dr9 hS ?_; intro w1 hS) | refine br_t (by assumption) ?_ | refine br_f (by assumption) ?_)
            refine ⟨rfl, i + 1, ?_, ⟨by omega, fun j h => ?_, hS.subs (List.Sublist.refl _) (.cons _ (.refl _))⟩, by omega⟩
            · rw [wi hlt (by omega)]
              rfl
            · by_cases e : j = i
              · subst e; exact fun _ => ⟨hb, fun h => absurd h h0⟩
              · exact hj j (by omega)
      · have h1 : decide ((i : Int) < (xs.length : Int)) = false := decide_eq_false (by omega)
        rw [hci.2 ⟨hm, by omega, fun j h => hj j (by omega) h⟩]
        repeat ((conv => whnf); first | (apply q_i; focus (intro w1 hS; (conv => whnf); first | exact ⟨rfl, rfl⟩ | ((first | refine ld_f hS 0 rfl rfl ?_ | refine ldA_f hS 0 rfl rfl ?_); (conv => whnf); exact ⟨rfl, rfl⟩))) | (refine nw_f hS ?_; intro b w1 hS) | refine as_i hS ?_ | refine as_i (hS.subs (List.nil_sublist _) sb9) ?_ | refine as_i (hS.subs (List.Sublist.refl _) sb9) ?_ | refine bar_f hS ?_ | refine ld_f hS 0 rfl rfl ?_ | refine ldA_f hS 0 rfl rfl ?_ | ((first | refine stN_f hS 0 rfl (lb9 rfl) rfl rfl ?_ | refine stM_f hS 0 rfl (lb9 rfl) rfl ?_); (conv => whnf); intro w1 hS) | (refine dr9 hS ?_; intro w1 hS) | refine br_t (by assumption) ?_ | refine br_f (by assumption) ?_)
        exact ⟨rfl, hS.nil⟩
theorem indexM_c (A : Option Addr) (c : Nat) (xs : List Sm) (f : Value) (p : Sm → Bool) (w : World) (hR : Rd w A (flat encM xs)) (hn : xs.length ≤ 4611686018427387904) (hf : TellsM w f p xs) :
    Fc Tryz.prog 123 [.slice A xs.length c, f] w fun v w' => (∃ i : Int, v = .int .i64 i ∧ decide (0 ≤ i) = xs.any p) ∧ St [] w w' [] := by
  refine fc_i TB_ok Tryz.func123 rfl (by kernel_rfl) ?_
  have hS := Sf.refl w
  repeat ((conv => whnf); first | (apply q_i; focus (intro w1 hS; (conv => whnf); first | exact ⟨rfl, rfl⟩)) | (refine nw_f hS ?_; intro b w1 hS) | refine as_i hS ?_ | refine as_i (hS.subs (List.nil_sublist _) sb9) ?_ | refine as_i (hS.subs (List.Sublist.refl _) sb9) ?_ | refine bar_f hS ?_ | (refine dr9 hS ?_; intro w1 hS) | refine br_t (by assumption) ?_ | refine br_f (by assumption) ?_)
  refine loop_i TB_ok (fun i : Nat => [(8, .int .i64 i)]) (fun i w' => i ≤ xs.length ∧ (xs.take i).any p = false ∧ Sf [] w w' [] []) (fun i => xs.length - i) 0 rfl ⟨Nat.zero_le _, by simp, hS⟩ ?_
  rintro i us w2 ⟨hi, hno, hS⟩
  (conv => whnf)
  refine br_i (fun hb => ?_) (fun hb => ?_)
  · have hlt : i < xs.length := by have := of_decide_eq_true hb; omega
    obtain ⟨b, off, rfl⟩ := hR.form (flat_ne encM_len (by omega) hlt)
    have hfi := hf xs[i] (List.getElem_mem hlt)
    cases hp : p xs[i] with
    | true =>
      rw [hp] at hfi
      repeat ((conv => whnf); first | (apply q_i; focus (intro w1 hS; (conv => whnf); first | exact ⟨rfl, rfl⟩ | ((refine .mk ⟨by omega, by omega⟩ ?_; refine ix_i rfl ?_); (conv => whnf); exact ⟨rfl, rfl⟩) | ((refine ldN_el encM_len (hR.below hS.nil).at (i := i) hlt rfl rfl ?_); (conv => whnf); exact ⟨rfl, rfl⟩))) | (refine nw_f hS ?_; intro b w1 hS) | refine as_i hS ?_ | refine as_i (hS.subs (List.nil_sublist _) sb9) ?_ | refine as_i (hS.subs (List.Sublist.refl _) sb9) ?_ | refine bar_f hS ?_ | (refine .mk ⟨by omega, by omega⟩ ?_; refine ix_i rfl ?_) | refine ldN_el encM_len (hR.below hS.nil).at (i := i) hlt rfl rfl ?_ | (refine dr9 hS ?_; intro w1 hS) | refine br_t (by assumption) ?_ | refine br_f (by assumption) ?_)
      refine cv_i (Cv.mono (hfi _ hS.nil) ?_)
      rintro v w6 ⟨rfl, hS'⟩
      replace hS := hS.call0 hS'
      repeat ((conv => whnf); first | (apply q_i; focus (intro w1 hS; (conv => whnf); first | exact ⟨rfl, rfl⟩)) | (refine nw_f hS ?_; intro b w1 hS) | refine as_i hS ?_ | refine as_i (hS.subs (List.nil_sublist _) sb9) ?_ | refine as_i (hS.subs (List.Sublist.refl _) sb9) ?_ | refine bar_f hS ?_ | (refine dr9 hS ?_; intro w1 hS) | refine br_t (by assumption) ?_ | refine br_f (by assumption) ?_)
      have hz : xs.any p = true := List.any_eq_true.2 ⟨xs[i], List.getElem_mem hlt, hp⟩
      exact ⟨⟨(i : Int), rfl, by rw [hz]; exact decide_eq_true (by omega)⟩, hS.nil⟩
    | false =>
      rw [hp] at hfi
      repeat ((conv => whnf); first | (apply q_i; focus (intro w1 hS; (conv => whnf); first | exact ⟨rfl, rfl⟩ | ((refine .mk ⟨by omega, by omega⟩ ?_; refine ix_i rfl ?_); (conv => whnf); exact ⟨rfl, rfl⟩) | ((refine ldN_el encM_len (hR.below hS.nil).at (i := i) hlt rfl rfl ?_); (conv => whnf); exact ⟨rfl, rfl⟩))) | (refine nw_f hS ?_; intro b w1 hS) | refine as_i hS ?_ | refine as_i (hS.subs (List.nil_sublist _) sb9) ?_ | refine as_i (hS.subs (List.Sublist.refl _) sb9) ?_ | refine bar_f hS ?_ | (refine .mk ⟨by omega, by omega⟩ ?_; refine ix_i rfl ?_) | refine ldN_el encM_len (hR.below hS.nil).at (i := i) hlt rfl rfl ?_ | (refine dr9 hS ?_; intro w1 hS) | refine br_t (by assumption) ?_ | refine br_f (by assumption) ?_)
      refine cv_i (Cv.mono (hfi _ hS.nil) ?_)
      rintro v w6 ⟨rfl, hS'⟩
      replace hS := hS.call0 hS'
      repeat ((conv => whnf); first | (apply q_i; focus (intro w1 hS; (conv => whnf); first | exact ⟨rfl, rfl⟩)) | (refine nw_f hS ?_; intro b w1 hS) | refine as_i hS ?_ | refine as_i (hS.subs (List.nil_sublist _) sb9) ?_ | refine as_i (hS.subs (List.Sublist.refl _) sb9) ?_ | refine bar_f hS ?_ | (refine dr9 hS ?_; intro w1 hS) | refine br_t (by assumption) ?_ | refine br_f (by assumption) ?_)
      refine ⟨rfl, i + 1, ?_, ⟨by omega, ?_, hS⟩, by omega⟩
      · rw [wi hlt (by omega)]
        rfl
      · rw [List.take_succ_eq_append_getElem hlt, List.any_append, hno]
        simp [hp]
  · have hge : i = xs.length := by have := of_decide_eq_false hb; omega
    rw [hge, List.take_length] at hno
    repeat ((conv => whnf); first | (apply q_i; focus (intro w1 hS; (conv => whnf); first | exact ⟨rfl, rfl⟩)) | (refine nw_f hS ?_; intro b w1 hS) | refine as_i hS ?_ | refine as_i (hS.subs (List.nil_sublist _) sb9) ?_ | refine as_i (hS.subs (List.Sublist.refl _) sb9) ?_ | refine bar_f hS ?_ | (refine dr9 hS ?_; intro w1 hS) | refine br_t (by assumption) ?_ | refine br_f (by assumption) ?_)
    exact ⟨⟨-1, rfl, by rw [hno]; rfl⟩, hS.nil⟩
theorem containsM_c (A : Option Addr) (c : Nat) (xs : List Sm) (f : Value) (p : Sm → Bool) (w : World) (hR : Rd w A (flat encM xs)) (hn : xs.length ≤ 4611686018427387904) (hf : TellsM w f p xs) :
    Fc Tryz.prog 101 [.slice A xs.length c, f] w fun v w' => v = .bool (xs.any p) ∧ St [] w w' [] := by
  refine fc_i TB_ok Tryz.func101 rfl (by kernel_rfl) ?_
  have hS := Sf.refl w
  repeat ((conv => whnf); first | (apply q_i; focus (intro w1 hS; (conv => whnf); first | exact ⟨rfl, rfl⟩)) | (refine nw_f hS ?_; intro b w1 hS) | refine as_i hS ?_ | refine as_i (hS.subs (List.nil_sublist _) sb9) ?_ | refine as_i (hS.subs (List.Sublist.refl _) sb9) ?_ | refine bar_f hS ?_ | (refine dr9 hS ?_; intro w1 hS) | refine br_t (by assumption) ?_ | refine br_f (by assumption) ?_)
  refine fc_m (indexM_c A c xs f p _ hR hn hf) ?_
  rintro v w1 ⟨⟨i, rfl, hi⟩, hS'⟩
  replace hS := hS.call0 hS'
  repeat ((conv => whnf); first | (apply q_i; focus (intro w1 hS; (conv => whnf); first | exact ⟨rfl, rfl⟩)) | (refine nw_f hS ?_; intro b w1 hS) | refine as_i hS ?_ | refine as_i (hS.subs (List.nil_sublist _) sb9) ?_ | refine as_i (hS.subs (List.Sublist.refl _) sb9) ?_ | refine bar_f hS ?_ | (refine dr9 hS ?_; intro w1 hS) | refine br_t (by assumption) ?_ | refine br_f (by assumption) ?_)
  exact ⟨congrArg Value.bool hi, hS.nil⟩
theorem badM_c (x : Sm) (hn : x.s.v.n ≤ 9223372036854775807) (hl : x.s.v.ks.length ≤ 4611686018427387904) (w : World) (hx : Rd w x.A (flat encU x.s.v.ks)) :
    Fc Tryz.prog 102 [.agg (encM x).toArray] w fun v w' => v = .bool (!okV x.s.v) ∧ St [] w w' [] := by
  refine fc_i TB_ok Tryz.func102 rfl (by kernel_rfl) ?_
  have hS := Sf.refl w
  have hp := fun w => check_c x.s.v.d x.s.v.n hn x.A x.c x.s.v.ks w
  cases hok : okVB x.s.v.d x.s.v.n x.s.v.ks with
  | false =>
    rw [hok] at hp
    repeat ((conv => whnf); first | (apply q_i; focus (intro w1 hS; (conv => whnf); first | exact ⟨rfl, rfl⟩ | ((first | refine ld_f hS 0 rfl rfl ?_ | refine ldA_f hS 0 rfl rfl ?_); (conv => whnf); exact ⟨rfl, rfl⟩) | ((refine ldN_f hS 0 rfl (lb9 rfl) ?_); (conv => whnf); exact ⟨rfl, rfl⟩))) | (refine nw_f hS ?_; intro b w1 hS) | refine as_i hS ?_ | refine as_i (hS.subs (List.nil_sublist _) sb9) ?_ | refine as_i (hS.subs (List.Sublist.refl _) sb9) ?_ | refine bar_f hS ?_ | refine ld_f hS 0 rfl rfl ?_ | refine ldA_f hS 0 rfl rfl ?_ | ((first | refine stN_f hS 0 rfl (lb9 rfl) rfl rfl ?_ | refine stM_f hS 0 rfl (lb9 rfl) rfl ?_); (conv => whnf); intro w1 hS) | refine ldN_f hS 0 rfl (lb9 rfl) ?_ | (refine fc_m (hp _ (hx.below hS.nil) hl) ?_; rintro v w3 ⟨rfl, hS'⟩; replace hS := hS.call0 hS') | (refine dr9 hS ?_; intro w1 hS) | refine br_t (by assumption) ?_ | refine br_f (by assumption) ?_)
    exact ⟨by unfold okV; rw [hok]; rfl, hS.nil⟩
  | true =>
    rw [hok] at hp
    repeat ((conv => whnf); first | (apply q_i; focus (intro w1 hS; (conv => whnf); first | exact ⟨rfl, rfl⟩ | ((first | refine ld_f hS 0 rfl rfl ?_ | refine ldA_f hS 0 rfl rfl ?_); (conv => whnf); exact ⟨rfl, rfl⟩) | ((refine ldN_f hS 0 rfl (lb9 rfl) ?_); (conv => whnf); exact ⟨rfl, rfl⟩))) | (refine nw_f hS ?_; intro b w1 hS) | refine as_i hS ?_ | refine as_i (hS.subs (List.nil_sublist _) sb9) ?_ | refine as_i (hS.subs (List.Sublist.refl _) sb9) ?_ | refine bar_f hS ?_ | refine ld_f hS 0 rfl rfl ?_ | refine ldA_f hS 0 rfl rfl ?_ | ((first | refine stN_f hS 0 rfl (lb9 rfl) rfl rfl ?_ | refine stM_f hS 0 rfl (lb9 rfl) rfl ?_); (conv => whnf); intro w1 hS) | refine ldN_f hS 0 rfl (lb9 rfl) ?_ | (refine fc_m (hp _ (hx.below hS.nil) hl) ?_; rintro v w3 ⟨rfl, hS'⟩; replace hS := hS.call0 hS') | (refine dr9 hS ?_; intro w1 hS) | refine br_t (by assumption) ?_ | refine br_f (by assumption) ?_)
    exact ⟨by unfold okV; rw [hok]; rfl, hS.nil⟩
theorem register_c (f : Nat → Int) (hf : ∀ j, j < 8 → 0 ≤ f j ∧ f j ≤ 4294967295) (A : Option Addr) (c : Nat) (ms : List Sm) (w : World) (hR : RdM w A ms) (hn : ms.length ≤ 4611686018427387904) (hx : ∀ m ∈ ms, okSv m.s ∧ m.s.v.ks.length ≤ 4611686018427387904) :
    Fc Tryz.prog 74 [regV f A ms.length c] w fun v w' => v = .bool (regB f (ms.map Sm.s)) ∧ St [] w w' [] := by
  have hcont := fun w => containsM_c A c ms (.func (.func 102) #[] #[]) (fun m => !okV m.s.v) w
  have hbad : ∀ w', RdM w' A ms → TellsM w' (.func (.func 102) #[] #[]) (fun m => !okV m.s.v) ms := fun w' h x hm w'' hS' => Cv.of_fc ((badM_c x (hx x hm).1.2.2.1.2 (hx x hm).2 w'' ((h.el x hm).below hS')).mono fun v w3 h => h)
  have hall : (!(ms.any fun m => !okV m.s.v)) = ((ms.map Sm.s).all fun s => okV s.v) := by rw [← List.not_all_eq_any_not, Bool.not_not, List.all_map]; rfl
  have h4 : ∀ b : Bool, ((if b = true then (0 : Int) else 4) == 0) = b := by decide
  have hreg : regB f (ms.map Sm.s) = (((if checkS f (ms.map Sm.s) = true then (0 : Int) else 4) == 0) && !(ms.any fun m => !okV m.s.v)) := by rw [h4, hall]; rfl
  rw [hreg]
  clear hall h4 hreg
  refine fc_i TB_ok Tryz.func74 rfl (by kernel_rfl) ?_
  have hS := Sf.refl w
  repeat' ((conv => whnf); first | refine And.intro ?_ ?_ | (apply q_i; focus (intro w1 hS; (conv => whnf); first | exact ⟨rfl, rfl⟩ | ((first | refine ld_f hS 0 rfl rfl ?_ | refine ldA_f hS 0 rfl rfl ?_); (conv => whnf); exact ⟨rfl, rfl⟩) | ((refine ldN_f hS 0 rfl (lb9 rfl) ?_); (conv => whnf); exact ⟨rfl, rfl⟩) | ((refine br_i (fun _ => ?_) (fun _ => ?_)); (conv => whnf); exact ⟨rfl, rfl⟩))) | (refine nw_f hS ?_; intro b w1 hS) | refine as_i hS ?_ | refine as_i (hS.subs (List.nil_sublist _) sb9) ?_ | refine as_i (hS.subs (List.Sublist.refl _) sb9) ?_ | refine bar_f hS ?_ | refine ld_f hS 0 rfl rfl ?_ | refine ldA_f hS 0 rfl rfl ?_ | ((first | refine stN_f hS 0 rfl (lb9 rfl) rfl rfl ?_ | refine stM_f hS 0 rfl (lb9 rfl) rfl ?_); (conv => whnf); intro w1 hS) | refine ldN_f hS 0 rfl (lb9 rfl) ?_ | (refine fc_m (scheckM_c f hf A c ms _ (hR.rd.below hS.nil) hn (fun x h => (hx x h).1.1.1)) ?_; rintro v w3 ⟨rfl, hS'⟩; replace hS := hS.call0 hS') | (refine fc_m (hcont _ (hR.rd.below hS.nil) hn (hbad _ (hR.below hS.nil))) ?_; rintro v w3 ⟨rfl, hS'⟩; replace hS := hS.call0 hS') | (refine br_i (fun _ => ?_) (fun _ => ?_)) | (refine dr9 hS ?_; intro w1 hS) | refine br_t (by assumption) ?_ | refine br_f (by assumption) ?_)
  all_goals first
    | exact hS.nil
    | (refine congrArg Value.bool ?_; simp only [*, Bool.not_true, Bool.not_false, Bool.and_true, Bool.true_and, Bool.false_and, Bool.and_false])
theorem within_c (n a b : Int) (w : World) : Fc Tryz.prog 72 [.int .i64 n, .int .i64 a, .int .i64 b] w fun v w' => v = .bool (inB n a b) ∧ St [] w w' [] := by
  refine fc_i TB_ok Tryz.func72 rfl (by kernel_rfl) ?_
  have hS := Sf.refl w
  repeat' ((conv => whnf); first | refine And.intro ?_ ?_ | (apply q_i; focus (intro w1 hS; (conv => whnf); first | exact ⟨rfl, rfl⟩ | ((refine br_i (fun _ => ?_) (fun _ => ?_)); (conv => whnf); exact ⟨rfl, rfl⟩))) | (refine nw_f hS ?_; intro b w1 hS) | refine as_i hS ?_ | refine as_i (hS.subs (List.nil_sublist _) sb9) ?_ | refine as_i (hS.subs (List.Sublist.refl _) sb9) ?_ | refine bar_f hS ?_ | (refine br_i (fun _ => ?_) (fun _ => ?_)) | (refine dr9 hS ?_; intro w1 hS) | refine br_t (by assumption) ?_ | refine br_f (by assumption) ?_)
  all_goals first
    | exact hS.nil
    | (simp only [inB, *]; rfl)
    | (rename_i h; have h' : decide (a ≤ n) = true := h; simp only [inB, h']; rfl)
    | (rename_i h; have h' : decide (a ≤ n) = false := h; simp only [inB, h']; rfl)
end Go.RV


set_option maxRecDepth 20000
set_option linter.unusedVariables false
set_option linter.unusedSimpArgs false
namespace Go.RV
open Go Go.Proofs Go.RowKit

theorem nm_c (p : List UInt8) (hp : p.length ≤ 1000) (w : World) : Fc Tryz.prog 73 [.string (strY p)] w fun v w' => v = .bool (namedB p) ∧ St [] w w' [] := by
  have hpc := fun w => C04.parse_c p (by omega) w
  have hn : namedB p = ((C04.parseT p).2.1 == 0 && decide (0 < ((C04.parseT p).1.length : Int))) := by
    unfold namedB
    congr 1
    by_cases h : 0 < (C04.parseT p).1.length
    · rw [decide_eq_true h, decide_eq_true (by omega)]
    · rw [decide_eq_false h, decide_eq_false (by omega)]
  rw [hn]
  generalize C04.parseT p = P at *
  obtain ⟨l, e, o⟩ := P
  simp only at hpc
  clear hn
  refine fc_i TB_ok Tryz.func73 rfl (by kernel_rfl) ?_
  have hS := Sf.refl w
  repeat ((conv => whnf); first | (apply q_i; focus (intro w1 hS; (conv => whnf); first | exact ⟨rfl, rfl⟩ | ((first | refine ld_f hS 0 rfl rfl ?_ | refine ldA_f hS 0 rfl rfl ?_); (conv => whnf); exact ⟨rfl, rfl⟩))) | (refine nw_f hS ?_; intro b w1 hS) | refine as_i hS ?_ | refine as_i (hS.subs (List.nil_sublist _) sb9) ?_ | refine as_i (hS.subs (List.Sublist.refl _) sb9) ?_ | refine bar_f hS ?_ | refine ld_f hS 0 rfl rfl ?_ | refine ldA_f hS 0 rfl rfl ?_ | ((first | refine stN_f hS 0 rfl (lb9 rfl) rfl rfl ?_ | refine stM_f hS 0 rfl (lb9 rfl) rfl ?_); (conv => whnf); intro w1 hS) | (refine dr9 hS ?_; intro w1 hS) | refine br_t (by assumption) ?_ | refine br_f (by assumption) ?_)
  refine fc_m (hpc _) ?_
  rintro v w1 ⟨A1, c1, Lv, rfl, hvl, hS'⟩
  replace hS := hS.callF hS'
  repeat' ((conv => whnf); first | refine And.intro ?_ ?_ | (apply q_i; focus (intro w1 hS; (conv => whnf); first | exact ⟨rfl, rfl⟩ | ((first | refine ld_f hS 0 rfl rfl ?_ | refine ldA_f hS 0 rfl rfl ?_); (conv => whnf); exact ⟨rfl, rfl⟩) | ((refine br_i (fun _ => ?_) (fun _ => ?_)); (conv => whnf); exact ⟨rfl, rfl⟩))) | (refine nw_f hS ?_; intro b w1 hS) | refine as_i hS ?_ | refine as_i (hS.subs (List.nil_sublist _) sb9) ?_ | refine as_i (hS.subs (List.Sublist.refl _) sb9) ?_ | refine bar_f hS ?_ | refine ld_f hS 0 rfl rfl ?_ | refine ldA_f hS 0 rfl rfl ?_ | ((first | refine stN_f hS 0 rfl (lb9 rfl) rfl rfl ?_ | refine stM_f hS 0 rfl (lb9 rfl) rfl ?_); (conv => whnf); intro w1 hS) | (refine br_i (fun _ => ?_) (fun _ => ?_)) | (refine dr9 hS ?_; intro w1 hS) | refine br_t (by assumption) ?_ | refine br_f (by assumption) ?_)
  all_goals first
    | exact hS.nil
    | (simp only [*]; rfl)
def verV (a b c : Int) (v : Va) (B : Option Addr) (e : Nat) : Value := .agg #[.int .u32 a, .int .u32 b, .int .u8 c, .bool v.d, .int .i64 v.n, .slice B v.ks.length e]
theorem version_c (a b c : Int) (hc : 0 ≤ c ∧ c ≤ 255) (v : Va) (ho : okVa v) (B : Option Addr) (e : Nat) (w : World) (hR : Rd w B (flat encU v.ks)) (hl : v.ks.length ≤ 4611686018427387904) :
    Fc Tryz.prog 75 [verV a b c v B e] w fun u w' => u = .bool (verB a b c v) ∧ St [] w w' [] := by
  have h4 : ∀ b : Bool, ((if b = true then (0 : Int) else 4) == 0) = b := by decide
  have e0 : okV v = ((if okVB v.d v.n v.ks = true then (0 : Int) else 4) == 0) := by rw [h4]; rfl
  have hw : IntKind.i64.wrap c = c := wrap_i64 (by omega) (by omega)
  have hin := fun w => within_c c 1 4 w
  rw [← hw] at hin
  have e1 : inB c 1 4 = inB (IntKind.i64.wrap c) 1 4 := by rw [hw]
  have hver : verB a b c v = (decide (0 < a) && (decide (b ≤ 1073741824) && (inB (IntKind.i64.wrap c) 1 4 && (!v.d && ((if okVB v.d v.n v.ks = true then (0 : Int) else 4) == 0))))) := by
    unfold verB
    rw [e0, e1]
  rw [hver]
  clear h4 e0 e1 hver hw
  refine fc_i TB_ok Tryz.func75 rfl (by kernel_rfl) ?_
  have hS := Sf.refl w
  repeat' ((conv => whnf); first | refine And.intro ?_ ?_ | (apply q_i; focus (intro w1 hS; (conv => whnf); first | exact ⟨rfl, rfl⟩ | ((first | refine ld_f hS 0 rfl rfl ?_ | refine ldA_f hS 0 rfl rfl ?_); (conv => whnf); exact ⟨rfl, rfl⟩) | ((refine ldN_f hS 0 rfl (lb9 rfl) ?_); (conv => whnf); exact ⟨rfl, rfl⟩) | ((refine br_i (fun _ => ?_) (fun _ => ?_)); (conv => whnf); exact ⟨rfl, rfl⟩))) | (refine nw_f hS ?_; intro b w1 hS) | refine as_i hS ?_ | refine as_i (hS.subs (List.nil_sublist _) sb9) ?_ | refine as_i (hS.subs (List.Sublist.refl _) sb9) ?_ | refine bar_f hS ?_ | refine ld_f hS 0 rfl rfl ?_ | refine ldA_f hS 0 rfl rfl ?_ | ((first | refine stN_f hS 0 rfl (lb9 rfl) rfl rfl ?_ | refine stM_f hS 0 rfl (lb9 rfl) rfl ?_); (conv => whnf); intro w1 hS) | refine ldN_f hS 0 rfl (lb9 rfl) ?_ | (refine fc_m (hin _) ?_; rintro v w3 ⟨rfl, hS'⟩; replace hS := hS.call0 hS') | (refine fc_m (check_c v.d v.n ho.1.2 B e v.ks _ (hR.below hS.nil) hl) ?_; rintro v w3 ⟨rfl, hS'⟩; replace hS := hS.call0 hS') | (refine br_i (fun _ => ?_) (fun _ => ?_)) | (refine dr9 hS ?_; intro w1 hS) | refine br_t (by assumption) ?_ | refine br_f (by assumption) ?_)
  all_goals first
    | exact hS.nil
    | (refine congrArg Value.bool ?_; simp only [*, Bool.not_true, Bool.not_false, Bool.and_true, Bool.true_and, Bool.false_and, Bool.and_false])
theorem chunk_c (a q c d : Int) (w : World) : Fc Tryz.prog 76 [chV a q c d] w fun u w' => u = .bool (chunkB a q c d) ∧ St [] w w' [] := by
  by_cases ha : a = 0
  · have ga : (a == 0) = true := by simpa using ha
    have e : chunkB a q c d = (eq4 a q c d a 0 0 0 && decide (0 < a)) := by unfold chunkB eq4; rw [if_pos (.inl ha)]; simp
    rw [e]
    clear e ha
    refine fc_i TB_ok Tryz.func76 rfl (by kernel_rfl) ?_
    have hS := Sf.refl w
    repeat' ((conv => whnf); first | refine And.intro ?_ ?_ | (apply q_i; focus (intro w1 hS; (conv => whnf); first | exact ⟨rfl, rfl⟩ | ((first | refine ld_f hS 0 rfl rfl ?_ | refine ldA_f hS 0 rfl rfl ?_); (conv => whnf); exact ⟨rfl, rfl⟩) | ((refine ldN_f hS 0 rfl (lb9 rfl) ?_); (conv => whnf); exact ⟨rfl, rfl⟩) | ((refine eqCh a q c d a 0 0 0 ?_); (conv => whnf); exact ⟨rfl, rfl⟩) | ((refine br_t (by assumption) ?_); (conv => whnf); exact ⟨rfl, rfl⟩) | ((refine br_f (by assumption) ?_); (conv => whnf); exact ⟨rfl, rfl⟩) | ((refine br_i (fun _ => ?_) (fun _ => ?_)); (conv => whnf); exact ⟨rfl, rfl⟩))) | (refine nw_f hS ?_; intro b w1 hS) | refine as_i hS ?_ | refine as_i (hS.subs (List.nil_sublist _) sb9) ?_ | refine as_i (hS.subs (List.Sublist.refl _) sb9) ?_ | refine bar_f hS ?_ | refine ld_f hS 0 rfl rfl ?_ | refine ldA_f hS 0 rfl rfl ?_ | ((first | refine stN_f hS 0 rfl (lb9 rfl) rfl rfl ?_ | refine stM_f hS 0 rfl (lb9 rfl) rfl ?_); (conv => whnf); intro w1 hS) | refine ldN_f hS 0 rfl (lb9 rfl) ?_ | refine eqCh a q c d a 0 0 0 ?_ | refine br_t (by assumption) ?_ | refine br_f (by assumption) ?_ | (refine br_i (fun _ => ?_) (fun _ => ?_)) | (refine dr9 hS ?_; intro w1 hS) | refine br_t (by assumption) ?_ | refine br_f (by assumption) ?_)
    all_goals first
      | exact hS.nil
      | (simp only [*]; rfl)
  · have ga : (a == 0) = false := by simpa using ha
    by_cases hc : c = 0
    · have gc : (c == 0) = true := by simpa using hc
      have e : chunkB a q c d = (eq4 a q c d a 0 0 0 && decide (0 < a)) := by unfold chunkB eq4; rw [if_pos (.inr hc)]; simp
      rw [e]
      clear e ha hc
      refine fc_i TB_ok Tryz.func76 rfl (by kernel_rfl) ?_
      have hS := Sf.refl w
      repeat' ((conv => whnf); first | refine And.intro ?_ ?_ | (apply q_i; focus (intro w1 hS; (conv => whnf); first | exact ⟨rfl, rfl⟩ | ((first | refine ld_f hS 0 rfl rfl ?_ | refine ldA_f hS 0 rfl rfl ?_); (conv => whnf); exact ⟨rfl, rfl⟩) | ((refine ldN_f hS 0 rfl (lb9 rfl) ?_); (conv => whnf); exact ⟨rfl, rfl⟩) | ((refine eqCh a q c d a 0 0 0 ?_); (conv => whnf); exact ⟨rfl, rfl⟩) | ((refine br_t (by assumption) ?_); (conv => whnf); exact ⟨rfl, rfl⟩) | ((refine br_f (by assumption) ?_); (conv => whnf); exact ⟨rfl, rfl⟩) | ((refine br_i (fun _ => ?_) (fun _ => ?_)); (conv => whnf); exact ⟨rfl, rfl⟩))) | (refine nw_f hS ?_; intro b w1 hS) | refine as_i hS ?_ | refine as_i (hS.subs (List.nil_sublist _) sb9) ?_ | refine as_i (hS.subs (List.Sublist.refl _) sb9) ?_ | refine bar_f hS ?_ | refine ld_f hS 0 rfl rfl ?_ | refine ldA_f hS 0 rfl rfl ?_ | ((first | refine stN_f hS 0 rfl (lb9 rfl) rfl rfl ?_ | refine stM_f hS 0 rfl (lb9 rfl) rfl ?_); (conv => whnf); intro w1 hS) | refine ldN_f hS 0 rfl (lb9 rfl) ?_ | refine eqCh a q c d a 0 0 0 ?_ | refine br_t (by assumption) ?_ | refine br_f (by assumption) ?_ | (refine br_i (fun _ => ?_) (fun _ => ?_)) | (refine dr9 hS ?_; intro w1 hS) | refine br_t (by assumption) ?_ | refine br_f (by assumption) ?_)
      all_goals first
        | exact hS.nil
        | (simp only [*]; rfl)
    · have gc : (c == 0) = false := by simpa using hc
      have e : chunkB a q c d = (inB q 0 2047 && (inB c 1 65535 && inB d 1 64)) := by unfold chunkB; rw [if_neg (by omega)]
      rw [e]
      clear e ha hc
      refine fc_i TB_ok Tryz.func76 rfl (by kernel_rfl) ?_
      have hS := Sf.refl w
      repeat' ((conv => whnf); first | refine And.intro ?_ ?_ | (apply q_i; focus (intro w1 hS; (conv => whnf); first | exact ⟨rfl, rfl⟩ | ((first | refine ld_f hS 0 rfl rfl ?_ | refine ldA_f hS 0 rfl rfl ?_); (conv => whnf); exact ⟨rfl, rfl⟩) | ((refine ldN_f hS 0 rfl (lb9 rfl) ?_); (conv => whnf); exact ⟨rfl, rfl⟩) | ((refine br_t (by assumption) ?_); (conv => whnf); exact ⟨rfl, rfl⟩) | ((refine br_f (by assumption) ?_); (conv => whnf); exact ⟨rfl, rfl⟩) | ((refine br_i (fun _ => ?_) (fun _ => ?_)); (conv => whnf); exact ⟨rfl, rfl⟩))) | (refine nw_f hS ?_; intro b w1 hS) | refine as_i hS ?_ | refine as_i (hS.subs (List.nil_sublist _) sb9) ?_ | refine as_i (hS.subs (List.Sublist.refl _) sb9) ?_ | refine bar_f hS ?_ | refine ld_f hS 0 rfl rfl ?_ | refine ldA_f hS 0 rfl rfl ?_ | ((first | refine stN_f hS 0 rfl (lb9 rfl) rfl rfl ?_ | refine stM_f hS 0 rfl (lb9 rfl) rfl ?_); (conv => whnf); intro w1 hS) | refine ldN_f hS 0 rfl (lb9 rfl) ?_ | (refine fc_m (within_c q 0 2047 _) ?_; rintro v w3 ⟨rfl, hS'⟩; replace hS := hS.call0 hS') | (refine fc_m (within_c c 1 65535 _) ?_; rintro v w3 ⟨rfl, hS'⟩; replace hS := hS.call0 hS') | (refine fc_m (within_c d 1 64 _) ?_; rintro v w3 ⟨rfl, hS'⟩; replace hS := hS.call0 hS') | refine br_t (by assumption) ?_ | refine br_f (by assumption) ?_ | (refine br_i (fun _ => ?_) (fun _ => ?_)) | (refine dr9 hS ?_; intro w1 hS) | refine br_t (by assumption) ?_ | refine br_f (by assumption) ?_)
      all_goals first
        | exact hS.nil
        | (simp only [*]; rfl)
end Go.RV


set_option maxRecDepth 20000
set_option linter.unusedVariables false
set_option linter.unusedSimpArgs false
namespace Go.RV
open Go Go.Proofs Go.RowKit

theorem kinds (k : Int) : k = 1 ∨ k = 2 ∨ k = 3 ∨ k = 4 ∨ k = 5 ∨ k = 6 ∨ k = 7 ∨ k = 8 ∨ (k ≠ 1 ∧ k ≠ 2 ∧ k ≠ 3 ∧ k ≠ 4 ∧ k ≠ 5 ∧ k ≠ 6 ∧ k ≠ 7 ∧ k ≠ 8) := by omega
theorem mayR9 {x : Rx} (hk : x.k ≠ 1 ∧ x.k ≠ 2 ∧ x.k ≠ 3 ∧ x.k ≠ 4 ∧ x.k ≠ 5 ∧ x.k ≠ 6 ∧ x.k ≠ 7 ∧ x.k ≠ 8) : mayR x = false := by
  unfold mayR
  rw [if_neg (by omega), if_neg (by omega), if_neg (by omega), if_neg (by omega), if_neg (by omega), if_neg (by omega), if_neg (by omega), if_neg (by omega)]
theorem if4 (b : Bool) : ((if b = true then (0 : Int) else 4) == 0) = b := by cases b <;> rfl
set_option maxHeartbeats 4000000 in
theorem rmay18_c (x : Rx) (ho : okR x) (h : Hd) (ms : List Sm) (w : World) (hx : MemR w x h ms) (hp : x.p.length ≤ 1000) (hl : x.xs.length ≤ 1073741824) (he : ∀ s ∈ x.xs, s.v.ks.length ≤ 1073741824) (hv : x.v.ks.length ≤ 1073741824) :
    Fc Tryz.prog 40 [recV x h] w fun v w' => v = .bool (mayR x) ∧ St [] w w' [] := by
  have hreg : ∀ w', RdM w' h.A ms → Fc Tryz.prog 74 [regV x.f h.A x.xs.length h.c] w' fun v w'' => v = .bool (regB x.f x.xs) ∧ St [] w' w'' [] := fun w' p => by
    have := register_c x.f ho.f h.A h.c ms w' p (by rw [← hx.len]; omega) (fun m hm => by
      have hm' : m.s ∈ x.xs := by rw [hx.eq]; exact List.mem_map_of_mem hm
      exact ⟨ho.xs _ hm', by have := he _ hm'; omega⟩)
    rwa [← hx.eq, ← hx.len] at this
  rcases kinds x.k with hk | hk | hk | hk | hk | hk | hk | hk | hk
  · have hm : mayR x = decide (x.r < 8) := by
      unfold mayR
      rw [if_pos hk]
    rw [hm]
    clear hm
    have g1 : (x.k == 1) = true := by rw [hk]; rfl
    have g2 : (x.k == 2) = false := by rw [hk]; rfl
    have g3 : (x.k == 3) = false := by rw [hk]; rfl
    have g4 : (x.k == 4) = false := by rw [hk]; rfl
    have g5 : (x.k == 5) = false := by rw [hk]; rfl
    have g6 : (x.k == 6) = false := by rw [hk]; rfl
    have g7 : (x.k == 7) = false := by rw [hk]; rfl
    have g8 : (x.k == 8) = false := by rw [hk]; rfl
    refine fc_i TB_ok Tryz.func40 rfl (by kernel_rfl) ?_
    have hS := Sf.refl w
    repeat' ((conv => whnf); first | refine And.intro ?_ ?_ | (apply q_i; focus (intro w1 hS; (conv => whnf); first | exact ⟨rfl, rfl⟩ | ((first | refine ld_f hS 0 rfl rfl ?_ | refine ldA_f hS 0 rfl rfl ?_); (conv => whnf); exact ⟨rfl, rfl⟩) | ((refine ldN_f hS 0 rfl (lb9 rfl) ?_); (conv => whnf); exact ⟨rfl, rfl⟩) | ((refine .mk ⟨by omega, by omega⟩ ?_); (conv => whnf); exact ⟨rfl, rfl⟩) | ((refine br_t (by assumption) ?_); (conv => whnf); exact ⟨rfl, rfl⟩) | ((refine br_f (by assumption) ?_); (conv => whnf); exact ⟨rfl, rfl⟩) | ((refine br_i (fun _ => ?_) (fun _ => ?_)); (conv => whnf); exact ⟨rfl, rfl⟩))) | (refine nw_f hS ?_; intro b w1 hS) | refine as_i hS ?_ | refine as_i (hS.subs (List.nil_sublist _) sb9) ?_ | refine as_i (hS.subs (List.Sublist.refl _) sb9) ?_ | refine bar_f hS ?_ | refine ld_f hS 0 rfl rfl ?_ | refine ldA_f hS 0 rfl rfl ?_ | ((first | refine stN_f hS 0 rfl (lb9 rfl) rfl rfl ?_ | refine stM_f hS 0 rfl (lb9 rfl) rfl ?_); (conv => whnf); intro w1 hS) | refine ldN_f hS 0 rfl (lb9 rfl) ?_ | (refine fc_m (put_c x.g ho.g _) ?_; rintro v w3 ⟨rfl, hS'⟩; replace hS := hS.call0 hS') | (refine fc_m (nm_c x.p hp _) ?_; rintro v w3 ⟨rfl, hS'⟩; replace hS := hS.call0 hS') | (refine fc_m (hreg _ (hx.l.below hS.nil)) ?_; rintro v w3 ⟨rfl, hS'⟩; replace hS := hS.call0 hS') | (refine fc_m (version_c x.vi x.vt x.vc ho.vc x.v ho.v h.B h.e _ (hx.v.below hS.nil) (by omega)) ?_; rintro v w3 ⟨rfl, hS'⟩; replace hS := hS.call0 hS') | (refine fc_m (chunk_c x.ci x.cb x.cr x.cs _) ?_; rintro v w3 ⟨rfl, hS'⟩; replace hS := hS.call0 hS') | (refine fc_m (within_c x.rq 0 1073741824 _) ?_; rintro v w3 ⟨rfl, hS'⟩; replace hS := hS.call0 hS') | refine .mk ⟨by omega, by omega⟩ ?_ | refine br_t (by assumption) ?_ | refine br_f (by assumption) ?_ | (refine br_i (fun _ => ?_) (fun _ => ?_)) | (refine dr9 hS ?_; intro w1 hS) | refine br_t (by assumption) ?_ | refine br_f (by assumption) ?_)
    all_goals first
      | exact hS.nil
      | rfl
      | (simp only [*]; rfl)
      | (refine congrArg Value.bool ?_; simp only [*, Bool.not_true, Bool.not_false, Bool.and_true, Bool.true_and, Bool.false_and, Bool.and_false])
  · have hm : mayR x = (decide (x.n0 ≤ 1073741824) && (decide (0 < x.n1) && decide (0 < x.n2))) := by
      unfold mayR
      rw [if_neg (by omega), if_pos hk]
    rw [hm]
    clear hm
    have g1 : (x.k == 1) = false := by rw [hk]; rfl
    have g2 : (x.k == 2) = true := by rw [hk]; rfl
    have g3 : (x.k == 3) = false := by rw [hk]; rfl
    have g4 : (x.k == 4) = false := by rw [hk]; rfl
    have g5 : (x.k == 5) = false := by rw [hk]; rfl
    have g6 : (x.k == 6) = false := by rw [hk]; rfl
    have g7 : (x.k == 7) = false := by rw [hk]; rfl
    have g8 : (x.k == 8) = false := by rw [hk]; rfl
    refine fc_i TB_ok Tryz.func40 rfl (by kernel_rfl) ?_
    have hS := Sf.refl w
    repeat' ((conv => whnf); first | refine And.intro ?_ ?_ | (apply q_i; focus (intro w1 hS; (conv => whnf); first | exact ⟨rfl, rfl⟩ | ((first | refine ld_f hS 0 rfl rfl ?_ | refine ldA_f hS 0 rfl rfl ?_); (conv => whnf); exact ⟨rfl, rfl⟩) | ((refine ldN_f hS 0 rfl (lb9 rfl) ?_); (conv => whnf); exact ⟨rfl, rfl⟩) | ((refine .mk ⟨by omega, by omega⟩ ?_); (conv => whnf); exact ⟨rfl, rfl⟩) | ((refine br_t (by assumption) ?_); (conv => whnf); exact ⟨rfl, rfl⟩) | ((refine br_f (by assumption) ?_); (conv => whnf); exact ⟨rfl, rfl⟩) | ((refine br_i (fun _ => ?_) (fun _ => ?_)); (conv => whnf); exact ⟨rfl, rfl⟩))) | (refine nw_f hS ?_; intro b w1 hS) | refine as_i hS ?_ | refine as_i (hS.subs (List.nil_sublist _) sb9) ?_ | refine as_i (hS.subs (List.Sublist.refl _) sb9) ?_ | refine bar_f hS ?_ | refine ld_f hS 0 rfl rfl ?_ | refine ldA_f hS 0 rfl rfl ?_ | ((first | refine stN_f hS 0 rfl (lb9 rfl) rfl rfl ?_ | refine stM_f hS 0 rfl (lb9 rfl) rfl ?_); (conv => whnf); intro w1 hS) | refine ldN_f hS 0 rfl (lb9 rfl) ?_ | (refine fc_m (put_c x.g ho.g _) ?_; rintro v w3 ⟨rfl, hS'⟩; replace hS := hS.call0 hS') | (refine fc_m (nm_c x.p hp _) ?_; rintro v w3 ⟨rfl, hS'⟩; replace hS := hS.call0 hS') | (refine fc_m (hreg _ (hx.l.below hS.nil)) ?_; rintro v w3 ⟨rfl, hS'⟩; replace hS := hS.call0 hS') | (refine fc_m (version_c x.vi x.vt x.vc ho.vc x.v ho.v h.B h.e _ (hx.v.below hS.nil) (by omega)) ?_; rintro v w3 ⟨rfl, hS'⟩; replace hS := hS.call0 hS') | (refine fc_m (chunk_c x.ci x.cb x.cr x.cs _) ?_; rintro v w3 ⟨rfl, hS'⟩; replace hS := hS.call0 hS') | (refine fc_m (within_c x.rq 0 1073741824 _) ?_; rintro v w3 ⟨rfl, hS'⟩; replace hS := hS.call0 hS') | refine .mk ⟨by omega, by omega⟩ ?_ | refine br_t (by assumption) ?_ | refine br_f (by assumption) ?_ | (refine br_i (fun _ => ?_) (fun _ => ?_)) | (refine dr9 hS ?_; intro w1 hS) | refine br_t (by assumption) ?_ | refine br_f (by assumption) ?_)
    all_goals first
      | exact hS.nil
      | rfl
      | (simp only [*]; rfl)
      | (refine congrArg Value.bool ?_; simp only [*, Bool.not_true, Bool.not_false, Bool.and_true, Bool.true_and, Bool.false_and, Bool.and_false])
  · have hm : mayR x = (decide (x.rk ≤ 1) && inB x.rq 0 1073741824) := by
      unfold mayR
      rw [if_neg (by omega), if_neg (by omega), if_pos hk]
    rw [hm]
    clear hm
    have g1 : (x.k == 1) = false := by rw [hk]; rfl
    have g2 : (x.k == 2) = false := by rw [hk]; rfl
    have g3 : (x.k == 3) = true := by rw [hk]; rfl
    have g4 : (x.k == 4) = false := by rw [hk]; rfl
    have g5 : (x.k == 5) = false := by rw [hk]; rfl
    have g6 : (x.k == 6) = false := by rw [hk]; rfl
    have g7 : (x.k == 7) = false := by rw [hk]; rfl
    have g8 : (x.k == 8) = false := by rw [hk]; rfl
    refine fc_i TB_ok Tryz.func40 rfl (by kernel_rfl) ?_
    have hS := Sf.refl w
    repeat' ((conv => whnf); first | refine And.intro ?_ ?_ | (apply q_i; focus (intro w1 hS; (conv => whnf); first | exact ⟨rfl, rfl⟩ | ((first | refine ld_f hS 0 rfl rfl ?_ | refine ldA_f hS 0 rfl rfl ?_); (conv => whnf); exact ⟨rfl, rfl⟩) | ((refine ldN_f hS 0 rfl (lb9 rfl) ?_); (conv => whnf); exact ⟨rfl, rfl⟩) | ((refine .mk ⟨by omega, by omega⟩ ?_); (conv => whnf); exact ⟨rfl, rfl⟩) | ((refine br_t (by assumption) ?_); (conv => whnf); exact ⟨rfl, rfl⟩) | ((refine br_f (by assumption) ?_); (conv => whnf); exact ⟨rfl, rfl⟩) | ((refine br_i (fun _ => ?_) (fun _ => ?_)); (conv => whnf); exact ⟨rfl, rfl⟩))) | (refine nw_f hS ?_; intro b w1 hS) | refine as_i hS ?_ | refine as_i (hS.subs (List.nil_sublist _) sb9) ?_ | refine as_i (hS.subs (List.Sublist.refl _) sb9) ?_ | refine bar_f hS ?_ | refine ld_f hS 0 rfl rfl ?_ | refine ldA_f hS 0 rfl rfl ?_ | ((first | refine stN_f hS 0 rfl (lb9 rfl) rfl rfl ?_ | refine stM_f hS 0 rfl (lb9 rfl) rfl ?_); (conv => whnf); intro w1 hS) | refine ldN_f hS 0 rfl (lb9 rfl) ?_ | (refine fc_m (put_c x.g ho.g _) ?_; rintro v w3 ⟨rfl, hS'⟩; replace hS := hS.call0 hS') | (refine fc_m (nm_c x.p hp _) ?_; rintro v w3 ⟨rfl, hS'⟩; replace hS := hS.call0 hS') | (refine fc_m (hreg _ (hx.l.below hS.nil)) ?_; rintro v w3 ⟨rfl, hS'⟩; replace hS := hS.call0 hS') | (refine fc_m (version_c x.vi x.vt x.vc ho.vc x.v ho.v h.B h.e _ (hx.v.below hS.nil) (by omega)) ?_; rintro v w3 ⟨rfl, hS'⟩; replace hS := hS.call0 hS') | (refine fc_m (chunk_c x.ci x.cb x.cr x.cs _) ?_; rintro v w3 ⟨rfl, hS'⟩; replace hS := hS.call0 hS') | (refine fc_m (within_c x.rq 0 1073741824 _) ?_; rintro v w3 ⟨rfl, hS'⟩; replace hS := hS.call0 hS') | refine .mk ⟨by omega, by omega⟩ ?_ | refine br_t (by assumption) ?_ | refine br_f (by assumption) ?_ | (refine br_i (fun _ => ?_) (fun _ => ?_)) | (refine dr9 hS ?_; intro w1 hS) | refine br_t (by assumption) ?_ | refine br_f (by assumption) ?_)
    all_goals first
      | exact hS.nil
      | rfl
      | (simp only [*]; rfl)
      | (refine congrArg Value.bool ?_; simp only [*, Bool.not_true, Bool.not_false, Bool.and_true, Bool.true_and, Bool.false_and, Bool.and_false])
  · have hm : mayR x = (namedB x.p && regB x.f x.xs) := by
      unfold mayR
      rw [if_neg (by omega), if_neg (by omega), if_neg (by omega), if_pos hk]
    rw [hm]
    clear hm
    have g1 : (x.k == 1) = false := by rw [hk]; rfl
    have g2 : (x.k == 2) = false := by rw [hk]; rfl
    have g3 : (x.k == 3) = false := by rw [hk]; rfl
    have g4 : (x.k == 4) = true := by rw [hk]; rfl
    have g5 : (x.k == 5) = false := by rw [hk]; rfl
    have g6 : (x.k == 6) = false := by rw [hk]; rfl
    have g7 : (x.k == 7) = false := by rw [hk]; rfl
    have g8 : (x.k == 8) = false := by rw [hk]; rfl
    refine fc_i TB_ok Tryz.func40 rfl (by kernel_rfl) ?_
    have hS := Sf.refl w
    repeat' ((conv => whnf); first | refine And.intro ?_ ?_ | (apply q_i; focus (intro w1 hS; (conv => whnf); first | exact ⟨rfl, rfl⟩ | ((first | refine ld_f hS 0 rfl rfl ?_ | refine ldA_f hS 0 rfl rfl ?_); (conv => whnf); exact ⟨rfl, rfl⟩) | ((refine ldN_f hS 0 rfl (lb9 rfl) ?_); (conv => whnf); exact ⟨rfl, rfl⟩) | ((refine .mk ⟨by omega, by omega⟩ ?_); (conv => whnf); exact ⟨rfl, rfl⟩) | ((refine br_t (by assumption) ?_); (conv => whnf); exact ⟨rfl, rfl⟩) | ((refine br_f (by assumption) ?_); (conv => whnf); exact ⟨rfl, rfl⟩) | ((refine br_i (fun _ => ?_) (fun _ => ?_)); (conv => whnf); exact ⟨rfl, rfl⟩))) | (refine nw_f hS ?_; intro b w1 hS) | refine as_i hS ?_ | refine as_i (hS.subs (List.nil_sublist _) sb9) ?_ | refine as_i (hS.subs (List.Sublist.refl _) sb9) ?_ | refine bar_f hS ?_ | refine ld_f hS 0 rfl rfl ?_ | refine ldA_f hS 0 rfl rfl ?_ | ((first | refine stN_f hS 0 rfl (lb9 rfl) rfl rfl ?_ | refine stM_f hS 0 rfl (lb9 rfl) rfl ?_); (conv => whnf); intro w1 hS) | refine ldN_f hS 0 rfl (lb9 rfl) ?_ | (refine fc_m (put_c x.g ho.g _) ?_; rintro v w3 ⟨rfl, hS'⟩; replace hS := hS.call0 hS') | (refine fc_m (nm_c x.p hp _) ?_; rintro v w3 ⟨rfl, hS'⟩; replace hS := hS.call0 hS') | (refine fc_m (hreg _ (hx.l.below hS.nil)) ?_; rintro v w3 ⟨rfl, hS'⟩; replace hS := hS.call0 hS') | (refine fc_m (version_c x.vi x.vt x.vc ho.vc x.v ho.v h.B h.e _ (hx.v.below hS.nil) (by omega)) ?_; rintro v w3 ⟨rfl, hS'⟩; replace hS := hS.call0 hS') | (refine fc_m (chunk_c x.ci x.cb x.cr x.cs _) ?_; rintro v w3 ⟨rfl, hS'⟩; replace hS := hS.call0 hS') | (refine fc_m (within_c x.rq 0 1073741824 _) ?_; rintro v w3 ⟨rfl, hS'⟩; replace hS := hS.call0 hS') | refine .mk ⟨by omega, by omega⟩ ?_ | refine br_t (by assumption) ?_ | refine br_f (by assumption) ?_ | (refine br_i (fun _ => ?_) (fun _ => ?_)) | (refine dr9 hS ?_; intro w1 hS) | refine br_t (by assumption) ?_ | refine br_f (by assumption) ?_)
    all_goals first
      | exact hS.nil
      | rfl
      | (simp only [*]; rfl)
      | (refine congrArg Value.bool ?_; simp only [*, Bool.not_true, Bool.not_false, Bool.and_true, Bool.true_and, Bool.false_and, Bool.and_false])
  · have hm : mayR x = (namedB x.p && verB x.vi x.vt x.vc x.v) := by
      unfold mayR
      rw [if_neg (by omega), if_neg (by omega), if_neg (by omega), if_neg (by omega), if_pos hk]
    rw [hm]
    clear hm
    have g1 : (x.k == 1) = false := by rw [hk]; rfl
    have g2 : (x.k == 2) = false := by rw [hk]; rfl
    have g3 : (x.k == 3) = false := by rw [hk]; rfl
    have g4 : (x.k == 4) = false := by rw [hk]; rfl
    have g5 : (x.k == 5) = true := by rw [hk]; rfl
    have g6 : (x.k == 6) = false := by rw [hk]; rfl
    have g7 : (x.k == 7) = false := by rw [hk]; rfl
    have g8 : (x.k == 8) = false := by rw [hk]; rfl
    refine fc_i TB_ok Tryz.func40 rfl (by kernel_rfl) ?_
    have hS := Sf.refl w
    repeat' ((conv => whnf); first | refine And.intro ?_ ?_ | (apply q_i; focus (intro w1 hS; (conv => whnf); first | exact ⟨rfl, rfl⟩ | ((first | refine ld_f hS 0 rfl rfl ?_ | refine ldA_f hS 0 rfl rfl ?_); (conv => whnf); exact ⟨rfl, rfl⟩) | ((refine ldN_f hS 0 rfl (lb9 rfl) ?_); (conv => whnf); exact ⟨rfl, rfl⟩) | ((refine .mk ⟨by omega, by omega⟩ ?_); (conv => whnf); exact ⟨rfl, rfl⟩) | ((refine br_t (by assumption) ?_); (conv => whnf); exact ⟨rfl, rfl⟩) | ((refine br_f (by assumption) ?_); (conv => whnf); exact ⟨rfl, rfl⟩) | ((refine br_i (fun _ => ?_) (fun _ => ?_)); (conv => whnf); exact ⟨rfl, rfl⟩))) | (refine nw_f hS ?_; intro b w1 hS) | refine as_i hS ?_ | refine as_i (hS.subs (List.nil_sublist _) sb9) ?_ | refine as_i (hS.subs (List.Sublist.refl _) sb9) ?_ | refine bar_f hS ?_ | refine ld_f hS 0 rfl rfl ?_ | refine ldA_f hS 0 rfl rfl ?_ | ((first | refine stN_f hS 0 rfl (lb9 rfl) rfl rfl ?_ | refine stM_f hS 0 rfl (lb9 rfl) rfl ?_); (conv => whnf); intro w1 hS) | refine ldN_f hS 0 rfl (lb9 rfl) ?_ | (refine fc_m (put_c x.g ho.g _) ?_; rintro v w3 ⟨rfl, hS'⟩; replace hS := hS.call0 hS') | (refine fc_m (nm_c x.p hp _) ?_; rintro v w3 ⟨rfl, hS'⟩; replace hS := hS.call0 hS') | (refine fc_m (hreg _ (hx.l.below hS.nil)) ?_; rintro v w3 ⟨rfl, hS'⟩; replace hS := hS.call0 hS') | (refine fc_m (version_c x.vi x.vt x.vc ho.vc x.v ho.v h.B h.e _ (hx.v.below hS.nil) (by omega)) ?_; rintro v w3 ⟨rfl, hS'⟩; replace hS := hS.call0 hS') | (refine fc_m (chunk_c x.ci x.cb x.cr x.cs _) ?_; rintro v w3 ⟨rfl, hS'⟩; replace hS := hS.call0 hS') | (refine fc_m (within_c x.rq 0 1073741824 _) ?_; rintro v w3 ⟨rfl, hS'⟩; replace hS := hS.call0 hS') | refine .mk ⟨by omega, by omega⟩ ?_ | refine br_t (by assumption) ?_ | refine br_f (by assumption) ?_ | (refine br_i (fun _ => ?_) (fun _ => ?_)) | (refine dr9 hS ?_; intro w1 hS) | refine br_t (by assumption) ?_ | refine br_f (by assumption) ?_)
    all_goals first
      | exact hS.nil
      | rfl
      | (simp only [*]; rfl)
      | (refine congrArg Value.bool ?_; simp only [*, Bool.not_true, Bool.not_false, Bool.and_true, Bool.true_and, Bool.false_and, Bool.and_false])
  · have hm : mayR x = decide (0 < x.vi) := by
      unfold mayR
      rw [if_neg (by omega), if_neg (by omega), if_neg (by omega), if_neg (by omega), if_neg (by omega), if_pos hk]
    rw [hm]
    clear hm
    have g1 : (x.k == 1) = false := by rw [hk]; rfl
    have g2 : (x.k == 2) = false := by rw [hk]; rfl
    have g3 : (x.k == 3) = false := by rw [hk]; rfl
    have g4 : (x.k == 4) = false := by rw [hk]; rfl
    have g5 : (x.k == 5) = false := by rw [hk]; rfl
    have g6 : (x.k == 6) = true := by rw [hk]; rfl
    have g7 : (x.k == 7) = false := by rw [hk]; rfl
    have g8 : (x.k == 8) = false := by rw [hk]; rfl
    refine fc_i TB_ok Tryz.func40 rfl (by kernel_rfl) ?_
    have hS := Sf.refl w
    repeat' ((conv => whnf); first | refine And.intro ?_ ?_ | (apply q_i; focus (intro w1 hS; (conv => whnf); first | exact ⟨rfl, rfl⟩ | ((first | refine ld_f hS 0 rfl rfl ?_ | refine ldA_f hS 0 rfl rfl ?_); (conv => whnf); exact ⟨rfl, rfl⟩) | ((refine ldN_f hS 0 rfl (lb9 rfl) ?_); (conv => whnf); exact ⟨rfl, rfl⟩) | ((refine .mk ⟨by omega, by omega⟩ ?_); (conv => whnf); exact ⟨rfl, rfl⟩) | ((refine br_t (by assumption) ?_); (conv => whnf); exact ⟨rfl, rfl⟩) | ((refine br_f (by assumption) ?_); (conv => whnf); exact ⟨rfl, rfl⟩) | ((refine br_i (fun _ => ?_) (fun _ => ?_)); (conv => whnf); exact ⟨rfl, rfl⟩))) | (refine nw_f hS ?_; intro b w1 hS) | refine as_i hS ?_ | refine as_i (hS.subs (List.nil_sublist _) sb9) ?_ | refine as_i (hS.subs (List.Sublist.refl _) sb9) ?_ | refine bar_f hS ?_ | refine ld_f hS 0 rfl rfl ?_ | refine ldA_f hS 0 rfl rfl ?_ | ((first | refine stN_f hS 0 rfl (lb9 rfl) rfl rfl ?_ | refine stM_f hS 0 rfl (lb9 rfl) rfl ?_); (conv => whnf); intro w1 hS) | refine ldN_f hS 0 rfl (lb9 rfl) ?_ | (refine fc_m (put_c x.g ho.g _) ?_; rintro v w3 ⟨rfl, hS'⟩; replace hS := hS.call0 hS') | (refine fc_m (nm_c x.p hp _) ?_; rintro v w3 ⟨rfl, hS'⟩; replace hS := hS.call0 hS') | (refine fc_m (hreg _ (hx.l.below hS.nil)) ?_; rintro v w3 ⟨rfl, hS'⟩; replace hS := hS.call0 hS') | (refine fc_m (version_c x.vi x.vt x.vc ho.vc x.v ho.v h.B h.e _ (hx.v.below hS.nil) (by omega)) ?_; rintro v w3 ⟨rfl, hS'⟩; replace hS := hS.call0 hS') | (refine fc_m (chunk_c x.ci x.cb x.cr x.cs _) ?_; rintro v w3 ⟨rfl, hS'⟩; replace hS := hS.call0 hS') | (refine fc_m (within_c x.rq 0 1073741824 _) ?_; rintro v w3 ⟨rfl, hS'⟩; replace hS := hS.call0 hS') | refine .mk ⟨by omega, by omega⟩ ?_ | refine br_t (by assumption) ?_ | refine br_f (by assumption) ?_ | (refine br_i (fun _ => ?_) (fun _ => ?_)) | (refine dr9 hS ?_; intro w1 hS) | refine br_t (by assumption) ?_ | refine br_f (by assumption) ?_)
    all_goals first
      | exact hS.nil
      | rfl
      | (simp only [*]; rfl)
      | (refine congrArg Value.bool ?_; simp only [*, Bool.not_true, Bool.not_false, Bool.and_true, Bool.true_and, Bool.false_and, Bool.and_false])
  · have hm : mayR x = chunkB x.ci x.cb x.cr x.cs := by
      unfold mayR
      rw [if_neg (by omega), if_neg (by omega), if_neg (by omega), if_neg (by omega), if_neg (by omega), if_neg (by omega), if_pos hk]
    rw [hm]
    clear hm
    have g1 : (x.k == 1) = false := by rw [hk]; rfl
    have g2 : (x.k == 2) = false := by rw [hk]; rfl
    have g3 : (x.k == 3) = false := by rw [hk]; rfl
    have g4 : (x.k == 4) = false := by rw [hk]; rfl
    have g5 : (x.k == 5) = false := by rw [hk]; rfl
    have g6 : (x.k == 6) = false := by rw [hk]; rfl
    have g7 : (x.k == 7) = true := by rw [hk]; rfl
    have g8 : (x.k == 8) = false := by rw [hk]; rfl
    refine fc_i TB_ok Tryz.func40 rfl (by kernel_rfl) ?_
    have hS := Sf.refl w
    repeat' ((conv => whnf); first | refine And.intro ?_ ?_ | (apply q_i; focus (intro w1 hS; (conv => whnf); first | exact ⟨rfl, rfl⟩ | ((first | refine ld_f hS 0 rfl rfl ?_ | refine ldA_f hS 0 rfl rfl ?_); (conv => whnf); exact ⟨rfl, rfl⟩) | ((refine ldN_f hS 0 rfl (lb9 rfl) ?_); (conv => whnf); exact ⟨rfl, rfl⟩) | ((refine .mk ⟨by omega, by omega⟩ ?_); (conv => whnf); exact ⟨rfl, rfl⟩) | ((refine br_t (by assumption) ?_); (conv => whnf); exact ⟨rfl, rfl⟩) | ((refine br_f (by assumption) ?_); (conv => whnf); exact ⟨rfl, rfl⟩) | ((refine br_i (fun _ => ?_) (fun _ => ?_)); (conv => whnf); exact ⟨rfl, rfl⟩))) | (refine nw_f hS ?_; intro b w1 hS) | refine as_i hS ?_ | refine as_i (hS.subs (List.nil_sublist _) sb9) ?_ | refine as_i (hS.subs (List.Sublist.refl _) sb9) ?_ | refine bar_f hS ?_ | refine ld_f hS 0 rfl rfl ?_ | refine ldA_f hS 0 rfl rfl ?_ | ((first | refine stN_f hS 0 rfl (lb9 rfl) rfl rfl ?_ | refine stM_f hS 0 rfl (lb9 rfl) rfl ?_); (conv => whnf); intro w1 hS) | refine ldN_f hS 0 rfl (lb9 rfl) ?_ | (refine fc_m (put_c x.g ho.g _) ?_; rintro v w3 ⟨rfl, hS'⟩; replace hS := hS.call0 hS') | (refine fc_m (nm_c x.p hp _) ?_; rintro v w3 ⟨rfl, hS'⟩; replace hS := hS.call0 hS') | (refine fc_m (hreg _ (hx.l.below hS.nil)) ?_; rintro v w3 ⟨rfl, hS'⟩; replace hS := hS.call0 hS') | (refine fc_m (version_c x.vi x.vt x.vc ho.vc x.v ho.v h.B h.e _ (hx.v.below hS.nil) (by omega)) ?_; rintro v w3 ⟨rfl, hS'⟩; replace hS := hS.call0 hS') | (refine fc_m (chunk_c x.ci x.cb x.cr x.cs _) ?_; rintro v w3 ⟨rfl, hS'⟩; replace hS := hS.call0 hS') | (refine fc_m (within_c x.rq 0 1073741824 _) ?_; rintro v w3 ⟨rfl, hS'⟩; replace hS := hS.call0 hS') | refine .mk ⟨by omega, by omega⟩ ?_ | refine br_t (by assumption) ?_ | refine br_f (by assumption) ?_ | (refine br_i (fun _ => ?_) (fun _ => ?_)) | (refine dr9 hS ?_; intro w1 hS) | refine br_t (by assumption) ?_ | refine br_f (by assumption) ?_)
    all_goals first
      | exact hS.nil
      | rfl
      | (simp only [*]; rfl)
      | (refine congrArg Value.bool ?_; simp only [*, Bool.not_true, Bool.not_false, Bool.and_true, Bool.true_and, Bool.false_and, Bool.and_false])
  · have hm : mayR x = (decide (x.r < 8) && (namedB x.p && ((if mayVB x.g = true then (0 : Int) else 4) == 0))) := by
      unfold mayR
      rw [if_neg (by omega), if_neg (by omega), if_neg (by omega), if_neg (by omega), if_neg (by omega), if_neg (by omega), if_neg (by omega), if_pos hk]
      rw [if4]
    rw [hm]
    clear hm
    have g1 : (x.k == 1) = false := by rw [hk]; rfl
    have g2 : (x.k == 2) = false := by rw [hk]; rfl
    have g3 : (x.k == 3) = false := by rw [hk]; rfl
    have g4 : (x.k == 4) = false := by rw [hk]; rfl
    have g5 : (x.k == 5) = false := by rw [hk]; rfl
    have g6 : (x.k == 6) = false := by rw [hk]; rfl
    have g7 : (x.k == 7) = false := by rw [hk]; rfl
    have g8 : (x.k == 8) = true := by rw [hk]; rfl
    refine fc_i TB_ok Tryz.func40 rfl (by kernel_rfl) ?_
    have hS := Sf.refl w
    repeat' ((conv => whnf); first | refine And.intro ?_ ?_ | (apply q_i; focus (intro w1 hS; (conv => whnf); first | exact ⟨rfl, rfl⟩ | ((first | refine ld_f hS 0 rfl rfl ?_ | refine ldA_f hS 0 rfl rfl ?_); (conv => whnf); exact ⟨rfl, rfl⟩) | ((refine ldN_f hS 0 rfl (lb9 rfl) ?_); (conv => whnf); exact ⟨rfl, rfl⟩) | ((refine .mk ⟨by omega, by omega⟩ ?_); (conv => whnf); exact ⟨rfl, rfl⟩) | ((refine br_t (by assumption) ?_); (conv => whnf); exact ⟨rfl, rfl⟩) | ((refine br_f (by assumption) ?_); (conv => whnf); exact ⟨rfl, rfl⟩) | ((refine br_i (fun _ => ?_) (fun _ => ?_)); (conv => whnf); exact ⟨rfl, rfl⟩))) | (refine nw_f hS ?_; intro b w1 hS) | refine as_i hS ?_ | refine as_i (hS.subs (List.nil_sublist _) sb9) ?_ | refine as_i (hS.subs (List.Sublist.refl _) sb9) ?_ | refine bar_f hS ?_ | refine ld_f hS 0 rfl rfl ?_ | refine ldA_f hS 0 rfl rfl ?_ | ((first | refine stN_f hS 0 rfl (lb9 rfl) rfl rfl ?_ | refine stM_f hS 0 rfl (lb9 rfl) rfl ?_); (conv => whnf); intro w1 hS) | refine ldN_f hS 0 rfl (lb9 rfl) ?_ | (refine fc_m (put_c x.g ho.g _) ?_; rintro v w3 ⟨rfl, hS'⟩; replace hS := hS.call0 hS') | (refine fc_m (nm_c x.p hp _) ?_; rintro v w3 ⟨rfl, hS'⟩; replace hS := hS.call0 hS') | (refine fc_m (hreg _ (hx.l.below hS.nil)) ?_; rintro v w3 ⟨rfl, hS'⟩; replace hS := hS.call0 hS') | (refine fc_m (version_c x.vi x.vt x.vc ho.vc x.v ho.v h.B h.e _ (hx.v.below hS.nil) (by omega)) ?_; rintro v w3 ⟨rfl, hS'⟩; replace hS := hS.call0 hS') | (refine fc_m (chunk_c x.ci x.cb x.cr x.cs _) ?_; rintro v w3 ⟨rfl, hS'⟩; replace hS := hS.call0 hS') | (refine fc_m (within_c x.rq 0 1073741824 _) ?_; rintro v w3 ⟨rfl, hS'⟩; replace hS := hS.call0 hS') | refine .mk ⟨by omega, by omega⟩ ?_ | refine br_t (by assumption) ?_ | refine br_f (by assumption) ?_ | (refine br_i (fun _ => ?_) (fun _ => ?_)) | (refine dr9 hS ?_; intro w1 hS) | refine br_t (by assumption) ?_ | refine br_f (by assumption) ?_)
    all_goals first
      | exact hS.nil
      | rfl
      | (simp only [*]; rfl)
      | (refine congrArg Value.bool ?_; simp only [*, Bool.not_true, Bool.not_false, Bool.and_true, Bool.true_and, Bool.false_and, Bool.and_false])
  · have hm : mayR x = false := by
      unfold mayR
      rw [if_neg (by omega), if_neg (by omega), if_neg (by omega), if_neg (by omega), if_neg (by omega), if_neg (by omega), if_neg (by omega), if_neg (by omega)]
    rw [hm]
    clear hm
    have g1 : (x.k == 1) = false := by simp; omega
    have g2 : (x.k == 2) = false := by simp; omega
    have g3 : (x.k == 3) = false := by simp; omega
    have g4 : (x.k == 4) = false := by simp; omega
    have g5 : (x.k == 5) = false := by simp; omega
    have g6 : (x.k == 6) = false := by simp; omega
    have g7 : (x.k == 7) = false := by simp; omega
    have g8 : (x.k == 8) = false := by simp; omega
    refine fc_i TB_ok Tryz.func40 rfl (by kernel_rfl) ?_
    have hS := Sf.refl w
    repeat' ((conv => whnf); first | refine And.intro ?_ ?_ | (apply q_i; focus (intro w1 hS; (conv => whnf); first | exact ⟨rfl, rfl⟩ | ((first | refine ld_f hS 0 rfl rfl ?_ | refine ldA_f hS 0 rfl rfl ?_); (conv => whnf); exact ⟨rfl, rfl⟩) | ((refine ldN_f hS 0 rfl (lb9 rfl) ?_); (conv => whnf); exact ⟨rfl, rfl⟩) | ((refine .mk ⟨by omega, by omega⟩ ?_); (conv => whnf); exact ⟨rfl, rfl⟩) | ((refine br_t (by assumption) ?_); (conv => whnf); exact ⟨rfl, rfl⟩) | ((refine br_f (by assumption) ?_); (conv => whnf); exact ⟨rfl, rfl⟩) | ((refine br_i (fun _ => ?_) (fun _ => ?_)); (conv => whnf); exact ⟨rfl, rfl⟩))) | (refine nw_f hS ?_; intro b w1 hS) | refine as_i hS ?_ | refine as_i (hS.subs (List.nil_sublist _) sb9) ?_ | refine as_i (hS.subs (List.Sublist.refl _) sb9) ?_ | refine bar_f hS ?_ | refine ld_f hS 0 rfl rfl ?_ | refine ldA_f hS 0 rfl rfl ?_ | ((first | refine stN_f hS 0 rfl (lb9 rfl) rfl rfl ?_ | refine stM_f hS 0 rfl (lb9 rfl) rfl ?_); (conv => whnf); intro w1 hS) | refine ldN_f hS 0 rfl (lb9 rfl) ?_ | (refine fc_m (put_c x.g ho.g _) ?_; rintro v w3 ⟨rfl, hS'⟩; replace hS := hS.call0 hS') | (refine fc_m (nm_c x.p hp _) ?_; rintro v w3 ⟨rfl, hS'⟩; replace hS := hS.call0 hS') | (refine fc_m (hreg _ (hx.l.below hS.nil)) ?_; rintro v w3 ⟨rfl, hS'⟩; replace hS := hS.call0 hS') | (refine fc_m (version_c x.vi x.vt x.vc ho.vc x.v ho.v h.B h.e _ (hx.v.below hS.nil) (by omega)) ?_; rintro v w3 ⟨rfl, hS'⟩; replace hS := hS.call0 hS') | (refine fc_m (chunk_c x.ci x.cb x.cr x.cs _) ?_; rintro v w3 ⟨rfl, hS'⟩; replace hS := hS.call0 hS') | (refine fc_m (within_c x.rq 0 1073741824 _) ?_; rintro v w3 ⟨rfl, hS'⟩; replace hS := hS.call0 hS') | refine .mk ⟨by omega, by omega⟩ ?_ | refine br_t (by assumption) ?_ | refine br_f (by assumption) ?_ | (refine br_i (fun _ => ?_) (fun _ => ?_)) | (refine dr9 hS ?_; intro w1 hS) | refine br_t (by assumption) ?_ | refine br_f (by assumption) ?_)
    all_goals first
      | exact hS.nil
      | rfl
      | (simp only [*]; rfl)
      | (refine congrArg Value.bool ?_; simp only [*, Bool.not_true, Bool.not_false, Bool.and_true, Bool.true_and, Bool.false_and, Bool.and_false])
set_option maxHeartbeats 4000000 in
theorem need_c (x : Rx) (h : Hd) (w : World) : Fc Tryz.prog 41 [recV x h] w fun v w' => v = recV (needR x) (needH x h) ∧ St [] w w' [] := by
  rcases kinds x.k with hk | hk | hk | hk | hk | hk | hk | hk | hk
  · have hm : needR x = { zeroRx x.k with r := x.r } := by
      unfold needR
      rw [if_pos hk]
    have hh : needH x h = noHd := by
      unfold needH
      rw [if_neg (by omega), if_neg (by omega)]
    rw [hm, hh]
    clear hm hh
    have g1 : (x.k == 1) = true := by rw [hk]; rfl
    have g2 : (x.k == 2) = false := by rw [hk]; rfl
    have g3 : (x.k == 3) = false := by rw [hk]; rfl
    have g4 : (x.k == 4) = false := by rw [hk]; rfl
    have g5 : (x.k == 5) = false := by rw [hk]; rfl
    have g6 : (x.k == 6) = false := by rw [hk]; rfl
    have g7 : (x.k == 7) = false := by rw [hk]; rfl
    have g8 : (x.k == 8) = false := by rw [hk]; rfl
    refine fc_i TB_ok Tryz.func41 rfl (by kernel_rfl) ?_
    have hS := Sf.refl w
    repeat' ((conv => whnf); first | refine And.intro ?_ ?_ | (apply q_i; focus (intro w1 hS; (conv => whnf); first | exact ⟨rfl, rfl⟩ | ((first | refine ld_f hS 0 rfl rfl ?_ | refine ld_f hS 1 rfl rfl ?_ | refine ld_f hS 2 rfl rfl ?_ | refine ldA_f hS 0 rfl rfl ?_ | refine ldA_f hS 1 rfl rfl ?_ | refine ldA_f hS 2 rfl rfl ?_); (conv => whnf); exact ⟨rfl, rfl⟩) | ((refine ldN_f hS 0 rfl (lb9 rfl) ?_); (conv => whnf); exact ⟨rfl, rfl⟩) | ((refine ldN_f hS 1 rfl (lb9 rfl) ?_); (conv => whnf); exact ⟨rfl, rfl⟩) | ((refine ldN_f hS 2 rfl (lb9 rfl) ?_); (conv => whnf); exact ⟨rfl, rfl⟩) | ((refine br_t (by assumption) ?_); (conv => whnf); exact ⟨rfl, rfl⟩) | ((refine br_f (by assumption) ?_); (conv => whnf); exact ⟨rfl, rfl⟩))) | (refine nw_f hS ?_; intro b w1 hS) | refine as_i hS ?_ | refine as_i (hS.subs (List.nil_sublist _) sb9) ?_ | refine as_i (hS.subs (List.Sublist.refl _) sb9) ?_ | refine bar_f hS ?_ | refine ld_f hS 0 rfl rfl ?_ | refine ld_f hS 1 rfl rfl ?_ | refine ld_f hS 2 rfl rfl ?_ | refine ldA_f hS 0 rfl rfl ?_ | refine ldA_f hS 1 rfl rfl ?_ | refine ldA_f hS 2 rfl rfl ?_ | ((first | refine stN_f hS 0 rfl (lb9 rfl) rfl rfl ?_ | refine stN_f hS 1 rfl (lb9 rfl) rfl rfl ?_ | refine stN_f hS 2 rfl (lb9 rfl) rfl rfl ?_ | refine stM_f hS 0 rfl (lb9 rfl) rfl ?_ | refine stM_f hS 1 rfl (lb9 rfl) rfl ?_ | refine stM_f hS 2 rfl (lb9 rfl) rfl ?_); (conv => whnf); intro w1 hS) | refine ldN_f hS 0 rfl (lb9 rfl) ?_ | refine ldN_f hS 1 rfl (lb9 rfl) ?_ | refine ldN_f hS 2 rfl (lb9 rfl) ?_ | refine br_t (by assumption) ?_ | refine br_f (by assumption) ?_ | (refine dr9 hS ?_; intro w1 hS) | refine br_t (by assumption) ?_ | refine br_f (by assumption) ?_)
    all_goals first
      | exact hS.nil
      | rfl
  · have hm : needR x = { zeroRx x.k with n0 := x.n0, n1 := x.n1, n2 := x.n2 } := by
      unfold needR
      rw [if_neg (by omega), if_pos hk]
    have hh : needH x h = noHd := by
      unfold needH
      rw [if_neg (by omega), if_neg (by omega)]
    rw [hm, hh]
    clear hm hh
    have g1 : (x.k == 1) = false := by rw [hk]; rfl
    have g2 : (x.k == 2) = true := by rw [hk]; rfl
    have g3 : (x.k == 3) = false := by rw [hk]; rfl
    have g4 : (x.k == 4) = false := by rw [hk]; rfl
    have g5 : (x.k == 5) = false := by rw [hk]; rfl
    have g6 : (x.k == 6) = false := by rw [hk]; rfl
    have g7 : (x.k == 7) = false := by rw [hk]; rfl
    have g8 : (x.k == 8) = false := by rw [hk]; rfl
    refine fc_i TB_ok Tryz.func41 rfl (by kernel_rfl) ?_
    have hS := Sf.refl w
    repeat' ((conv => whnf); first | refine And.intro ?_ ?_ | (apply q_i; focus (intro w1 hS; (conv => whnf); first | exact ⟨rfl, rfl⟩ | ((first | refine ld_f hS 0 rfl rfl ?_ | refine ld_f hS 1 rfl rfl ?_ | refine ld_f hS 2 rfl rfl ?_ | refine ldA_f hS 0 rfl rfl ?_ | refine ldA_f hS 1 rfl rfl ?_ | refine ldA_f hS 2 rfl rfl ?_); (conv => whnf); exact ⟨rfl, rfl⟩) | ((refine ldN_f hS 0 rfl (lb9 rfl) ?_); (conv => whnf); exact ⟨rfl, rfl⟩) | ((refine ldN_f hS 1 rfl (lb9 rfl) ?_); (conv => whnf); exact ⟨rfl, rfl⟩) | ((refine ldN_f hS 2 rfl (lb9 rfl) ?_); (conv => whnf); exact ⟨rfl, rfl⟩) | ((refine br_t (by assumption) ?_); (conv => whnf); exact ⟨rfl, rfl⟩) | ((refine br_f (by assumption) ?_); (conv => whnf); exact ⟨rfl, rfl⟩))) | (refine nw_f hS ?_; intro b w1 hS) | refine as_i hS ?_ | refine as_i (hS.subs (List.nil_sublist _) sb9) ?_ | refine as_i (hS.subs (List.Sublist.refl _) sb9) ?_ | refine bar_f hS ?_ | refine ld_f hS 0 rfl rfl ?_ | refine ld_f hS 1 rfl rfl ?_ | refine ld_f hS 2 rfl rfl ?_ | refine ldA_f hS 0 rfl rfl ?_ | refine ldA_f hS 1 rfl rfl ?_ | refine ldA_f hS 2 rfl rfl ?_ | ((first | refine stN_f hS 0 rfl (lb9 rfl) rfl rfl ?_ | refine stN_f hS 1 rfl (lb9 rfl) rfl rfl ?_ | refine stN_f hS 2 rfl (lb9 rfl) rfl rfl ?_ | refine stM_f hS 0 rfl (lb9 rfl) rfl ?_ | refine stM_f hS 1 rfl (lb9 rfl) rfl ?_ | refine stM_f hS 2 rfl (lb9 rfl) rfl ?_); (conv => whnf); intro w1 hS) | refine ldN_f hS 0 rfl (lb9 rfl) ?_ | refine ldN_f hS 1 rfl (lb9 rfl) ?_ | refine ldN_f hS 2 rfl (lb9 rfl) ?_ | refine br_t (by assumption) ?_ | refine br_f (by assumption) ?_ | (refine dr9 hS ?_; intro w1 hS) | refine br_t (by assumption) ?_ | refine br_f (by assumption) ?_)
    all_goals first
      | exact hS.nil
      | rfl
  · have hm : needR x = { zeroRx x.k with rk := x.rk, ra := x.ra, rq := x.rq } := by
      unfold needR
      rw [if_neg (by omega), if_neg (by omega), if_pos hk]
    have hh : needH x h = noHd := by
      unfold needH
      rw [if_neg (by omega), if_neg (by omega)]
    rw [hm, hh]
    clear hm hh
    have g1 : (x.k == 1) = false := by rw [hk]; rfl
    have g2 : (x.k == 2) = false := by rw [hk]; rfl
    have g3 : (x.k == 3) = true := by rw [hk]; rfl
    have g4 : (x.k == 4) = false := by rw [hk]; rfl
    have g5 : (x.k == 5) = false := by rw [hk]; rfl
    have g6 : (x.k == 6) = false := by rw [hk]; rfl
    have g7 : (x.k == 7) = false := by rw [hk]; rfl
    have g8 : (x.k == 8) = false := by rw [hk]; rfl
    refine fc_i TB_ok Tryz.func41 rfl (by kernel_rfl) ?_
    have hS := Sf.refl w
    repeat' ((conv => whnf); first | refine And.intro ?_ ?_ | (apply q_i; focus (intro w1 hS; (conv => whnf); first | exact ⟨rfl, rfl⟩ | ((first | refine ld_f hS 0 rfl rfl ?_ | refine ld_f hS 1 rfl rfl ?_ | refine ld_f hS 2 rfl rfl ?_ | refine ldA_f hS 0 rfl rfl ?_ | refine ldA_f hS 1 rfl rfl ?_ | refine ldA_f hS 2 rfl rfl ?_); (conv => whnf); exact ⟨rfl, rfl⟩) | ((refine ldN_f hS 0 rfl (lb9 rfl) ?_); (conv => whnf); exact ⟨rfl, rfl⟩) | ((refine ldN_f hS 1 rfl (lb9 rfl) ?_); (conv => whnf); exact ⟨rfl, rfl⟩) | ((refine ldN_f hS 2 rfl (lb9 rfl) ?_); (conv => whnf); exact ⟨rfl, rfl⟩) | ((refine br_t (by assumption) ?_); (conv => whnf); exact ⟨rfl, rfl⟩) | ((refine br_f (by assumption) ?_); (conv => whnf); exact ⟨rfl, rfl⟩))) | (refine nw_f hS ?_; intro b w1 hS) | refine as_i hS ?_ | refine as_i (hS.subs (List.nil_sublist _) sb9) ?_ | refine as_i (hS.subs (List.Sublist.refl _) sb9) ?_ | refine bar_f hS ?_ | refine ld_f hS 0 rfl rfl ?_ | refine ld_f hS 1 rfl rfl ?_ | refine ld_f hS 2 rfl rfl ?_ | refine ldA_f hS 0 rfl rfl ?_ | refine ldA_f hS 1 rfl rfl ?_ | refine ldA_f hS 2 rfl rfl ?_ | ((first | refine stN_f hS 0 rfl (lb9 rfl) rfl rfl ?_ | refine stN_f hS 1 rfl (lb9 rfl) rfl rfl ?_ | refine stN_f hS 2 rfl (lb9 rfl) rfl rfl ?_ | refine stM_f hS 0 rfl (lb9 rfl) rfl ?_ | refine stM_f hS 1 rfl (lb9 rfl) rfl ?_ | refine stM_f hS 2 rfl (lb9 rfl) rfl ?_); (conv => whnf); intro w1 hS) | refine ldN_f hS 0 rfl (lb9 rfl) ?_ | refine ldN_f hS 1 rfl (lb9 rfl) ?_ | refine ldN_f hS 2 rfl (lb9 rfl) ?_ | refine br_t (by assumption) ?_ | refine br_f (by assumption) ?_ | (refine dr9 hS ?_; intro w1 hS) | refine br_t (by assumption) ?_ | refine br_f (by assumption) ?_)
    all_goals first
      | exact hS.nil
      | rfl
  · have hm : needR x = { zeroRx x.k with p := x.p, f := x.f, xs := x.xs } := by
      unfold needR
      rw [if_neg (by omega), if_neg (by omega), if_neg (by omega), if_pos hk]
    have hh : needH x h = ⟨h.A, h.c, none, 0⟩ := by
      unfold needH
      rw [if_pos hk]
    rw [hm, hh]
    clear hm hh
    have g1 : (x.k == 1) = false := by rw [hk]; rfl
    have g2 : (x.k == 2) = false := by rw [hk]; rfl
    have g3 : (x.k == 3) = false := by rw [hk]; rfl
    have g4 : (x.k == 4) = true := by rw [hk]; rfl
    have g5 : (x.k == 5) = false := by rw [hk]; rfl
    have g6 : (x.k == 6) = false := by rw [hk]; rfl
    have g7 : (x.k == 7) = false := by rw [hk]; rfl
    have g8 : (x.k == 8) = false := by rw [hk]; rfl
    refine fc_i TB_ok Tryz.func41 rfl (by kernel_rfl) ?_
    have hS := Sf.refl w
    repeat ((conv => whnf); first | (apply q_i; focus (intro w1 hS; (conv => whnf); first | exact ⟨rfl, rfl⟩ | ((first | refine ld_f hS 0 rfl rfl ?_ | refine ld_f hS 1 rfl rfl ?_ | refine ld_f hS 2 rfl rfl ?_ | refine ldA_f hS 0 rfl rfl ?_ | refine ldA_f hS 1 rfl rfl ?_ | refine ldA_f hS 2 rfl rfl ?_); (conv => whnf); exact ⟨rfl, rfl⟩) | ((refine ldN_f hS 0 rfl (lb9 rfl) ?_); (conv => whnf); exact ⟨rfl, rfl⟩) | ((refine ldN_f hS 1 rfl (lb9 rfl) ?_); (conv => whnf); exact ⟨rfl, rfl⟩) | ((refine ldN_f hS 2 rfl (lb9 rfl) ?_); (conv => whnf); exact ⟨rfl, rfl⟩) | ((refine br_t (by assumption) ?_); (conv => whnf); exact ⟨rfl, rfl⟩) | ((refine br_f (by assumption) ?_); (conv => whnf); exact ⟨rfl, rfl⟩))) | (refine nw_f hS ?_; intro b w1 hS) | refine as_i hS ?_ | refine as_i (hS.subs (List.nil_sublist _) sb9) ?_ | refine as_i (hS.subs (List.Sublist.refl _) sb9) ?_ | refine bar_f hS ?_ | refine ld_f hS 0 rfl rfl ?_ | refine ld_f hS 1 rfl rfl ?_ | refine ld_f hS 2 rfl rfl ?_ | refine ldA_f hS 0 rfl rfl ?_ | refine ldA_f hS 1 rfl rfl ?_ | refine ldA_f hS 2 rfl rfl ?_ | ((first | refine stN_f hS 0 rfl (lb9 rfl) rfl rfl ?_ | refine stN_f hS 1 rfl (lb9 rfl) rfl rfl ?_ | refine stN_f hS 2 rfl (lb9 rfl) rfl rfl ?_ | refine stM_f hS 0 rfl (lb9 rfl) rfl ?_ | refine stM_f hS 1 rfl (lb9 rfl) rfl ?_ | refine stM_f hS 2 rfl (lb9 rfl) rfl ?_); (conv => whnf); intro w1 hS) | refine ldN_f hS 0 rfl (lb9 rfl) ?_ | refine ldN_f hS 1 rfl (lb9 rfl) ?_ | refine ldN_f hS 2 rfl (lb9 rfl) ?_ | refine br_t (by assumption) ?_ | refine br_f (by assumption) ?_ | refine br_t (by assumption) ?_ | refine br_f (by assumption) ?_)
    refine drawf (Ls := [_]) TB_ok rfl (by kernel_rfl) (by kernel_rfl) hS (List.Sublist.refl _) (.cons _ (.cons _ (.refl _))) ?_; intro w1 hS
    repeat' ((conv => whnf); first | refine And.intro ?_ ?_ | (apply q_i; focus (intro w1 hS; (conv => whnf); first | exact ⟨rfl, rfl⟩ | ((first | refine ld_f hS 0 rfl rfl ?_ | refine ld_f hS 1 rfl rfl ?_ | refine ld_f hS 2 rfl rfl ?_ | refine ldA_f hS 0 rfl rfl ?_ | refine ldA_f hS 1 rfl rfl ?_ | refine ldA_f hS 2 rfl rfl ?_); (conv => whnf); exact ⟨rfl, rfl⟩) | ((refine ldN_f hS 0 rfl (lb9 rfl) ?_); (conv => whnf); exact ⟨rfl, rfl⟩) | ((refine ldN_f hS 1 rfl (lb9 rfl) ?_); (conv => whnf); exact ⟨rfl, rfl⟩) | ((refine ldN_f hS 2 rfl (lb9 rfl) ?_); (conv => whnf); exact ⟨rfl, rfl⟩) | ((refine br_t (by assumption) ?_); (conv => whnf); exact ⟨rfl, rfl⟩) | ((refine br_f (by assumption) ?_); (conv => whnf); exact ⟨rfl, rfl⟩))) | (refine nw_f hS ?_; intro b w1 hS) | refine as_i hS ?_ | refine as_i (hS.subs (List.nil_sublist _) sb9) ?_ | refine as_i (hS.subs (List.Sublist.refl _) sb9) ?_ | refine bar_f hS ?_ | refine ld_f hS 0 rfl rfl ?_ | refine ld_f hS 1 rfl rfl ?_ | refine ld_f hS 2 rfl rfl ?_ | refine ldA_f hS 0 rfl rfl ?_ | refine ldA_f hS 1 rfl rfl ?_ | refine ldA_f hS 2 rfl rfl ?_ | ((first | refine stN_f hS 0 rfl (lb9 rfl) rfl rfl ?_ | refine stN_f hS 1 rfl (lb9 rfl) rfl rfl ?_ | refine stN_f hS 2 rfl (lb9 rfl) rfl rfl ?_ | refine stM_f hS 0 rfl (lb9 rfl) rfl ?_ | refine stM_f hS 1 rfl (lb9 rfl) rfl ?_ | refine stM_f hS 2 rfl (lb9 rfl) rfl ?_); (conv => whnf); intro w1 hS) | refine ldN_f hS 0 rfl (lb9 rfl) ?_ | refine ldN_f hS 1 rfl (lb9 rfl) ?_ | refine ldN_f hS 2 rfl (lb9 rfl) ?_ | refine br_t (by assumption) ?_ | refine br_f (by assumption) ?_ | (refine dr9 hS ?_; intro w1 hS) | refine br_t (by assumption) ?_ | refine br_f (by assumption) ?_)
    all_goals first
      | exact hS.nil
      | rfl
  · have hm : needR x = { zeroRx x.k with p := x.p, vi := x.vi, vt := x.vt, vc := x.vc, v := x.v } := by
      unfold needR
      rw [if_neg (by omega), if_neg (by omega), if_neg (by omega), if_neg (by omega), if_pos hk]
    have hh : needH x h = ⟨none, 0, h.B, h.e⟩ := by
      unfold needH
      rw [if_neg (by omega), if_pos hk]
    rw [hm, hh]
    clear hm hh
    have g1 : (x.k == 1) = false := by rw [hk]; rfl
    have g2 : (x.k == 2) = false := by rw [hk]; rfl
    have g3 : (x.k == 3) = false := by rw [hk]; rfl
    have g4 : (x.k == 4) = false := by rw [hk]; rfl
    have g5 : (x.k == 5) = true := by rw [hk]; rfl
    have g6 : (x.k == 6) = false := by rw [hk]; rfl
    have g7 : (x.k == 7) = false := by rw [hk]; rfl
    have g8 : (x.k == 8) = false := by rw [hk]; rfl
    refine fc_i TB_ok Tryz.func41 rfl (by kernel_rfl) ?_
    have hS := Sf.refl w
    repeat ((conv => whnf); first | (apply q_i; focus (intro w1 hS; (conv => whnf); first | exact ⟨rfl, rfl⟩ | ((first | refine ld_f hS 0 rfl rfl ?_ | refine ld_f hS 1 rfl rfl ?_ | refine ld_f hS 2 rfl rfl ?_ | refine ldA_f hS 0 rfl rfl ?_ | refine ldA_f hS 1 rfl rfl ?_ | refine ldA_f hS 2 rfl rfl ?_); (conv => whnf); exact ⟨rfl, rfl⟩) | ((refine ldN_f hS 0 rfl (lb9 rfl) ?_); (conv => whnf); exact ⟨rfl, rfl⟩) | ((refine ldN_f hS 1 rfl (lb9 rfl) ?_); (conv => whnf); exact ⟨rfl, rfl⟩) | ((refine ldN_f hS 2 rfl (lb9 rfl) ?_); (conv => whnf); exact ⟨rfl, rfl⟩) | ((refine br_t (by assumption) ?_); (conv => whnf); exact ⟨rfl, rfl⟩) | ((refine br_f (by assumption) ?_); (conv => whnf); exact ⟨rfl, rfl⟩))) | (refine nw_f hS ?_; intro b w1 hS) | refine as_i hS ?_ | refine as_i (hS.subs (List.nil_sublist _) sb9) ?_ | refine as_i (hS.subs (List.Sublist.refl _) sb9) ?_ | refine bar_f hS ?_ | refine ld_f hS 0 rfl rfl ?_ | refine ld_f hS 1 rfl rfl ?_ | refine ld_f hS 2 rfl rfl ?_ | refine ldA_f hS 0 rfl rfl ?_ | refine ldA_f hS 1 rfl rfl ?_ | refine ldA_f hS 2 rfl rfl ?_ | ((first | refine stN_f hS 0 rfl (lb9 rfl) rfl rfl ?_ | refine stN_f hS 1 rfl (lb9 rfl) rfl rfl ?_ | refine stN_f hS 2 rfl (lb9 rfl) rfl rfl ?_ | refine stM_f hS 0 rfl (lb9 rfl) rfl ?_ | refine stM_f hS 1 rfl (lb9 rfl) rfl ?_ | refine stM_f hS 2 rfl (lb9 rfl) rfl ?_); (conv => whnf); intro w1 hS) | refine ldN_f hS 0 rfl (lb9 rfl) ?_ | refine ldN_f hS 1 rfl (lb9 rfl) ?_ | refine ldN_f hS 2 rfl (lb9 rfl) ?_ | refine br_t (by assumption) ?_ | refine br_f (by assumption) ?_ | refine br_t (by assumption) ?_ | refine br_f (by assumption) ?_)
    refine drawf (Ls := [_]) TB_ok rfl (by kernel_rfl) (by kernel_rfl) hS (List.Sublist.refl _) (.cons _ (.cons _ (.refl _))) ?_; intro w1 hS
    repeat' ((conv => whnf); first | refine And.intro ?_ ?_ | (apply q_i; focus (intro w1 hS; (conv => whnf); first | exact ⟨rfl, rfl⟩ | ((first | refine ld_f hS 0 rfl rfl ?_ | refine ld_f hS 1 rfl rfl ?_ | refine ld_f hS 2 rfl rfl ?_ | refine ldA_f hS 0 rfl rfl ?_ | refine ldA_f hS 1 rfl rfl ?_ | refine ldA_f hS 2 rfl rfl ?_); (conv => whnf); exact ⟨rfl, rfl⟩) | ((refine ldN_f hS 0 rfl (lb9 rfl) ?_); (conv => whnf); exact ⟨rfl, rfl⟩) | ((refine ldN_f hS 1 rfl (lb9 rfl) ?_); (conv => whnf); exact ⟨rfl, rfl⟩) | ((refine ldN_f hS 2 rfl (lb9 rfl) ?_); (conv => whnf); exact ⟨rfl, rfl⟩) | ((refine br_t (by assumption) ?_); (conv => whnf); exact ⟨rfl, rfl⟩) | ((refine br_f (by assumption) ?_); (conv => whnf); exact ⟨rfl, rfl⟩))) | (refine nw_f hS ?_; intro b w1 hS) | refine as_i hS ?_ | refine as_i (hS.subs (List.nil_sublist _) sb9) ?_ | refine as_i (hS.subs (List.Sublist.refl _) sb9) ?_ | refine bar_f hS ?_ | refine ld_f hS 0 rfl rfl ?_ | refine ld_f hS 1 rfl rfl ?_ | refine ld_f hS 2 rfl rfl ?_ | refine ldA_f hS 0 rfl rfl ?_ | refine ldA_f hS 1 rfl rfl ?_ | refine ldA_f hS 2 rfl rfl ?_ | ((first | refine stN_f hS 0 rfl (lb9 rfl) rfl rfl ?_ | refine stN_f hS 1 rfl (lb9 rfl) rfl rfl ?_ | refine stN_f hS 2 rfl (lb9 rfl) rfl rfl ?_ | refine stM_f hS 0 rfl (lb9 rfl) rfl ?_ | refine stM_f hS 1 rfl (lb9 rfl) rfl ?_ | refine stM_f hS 2 rfl (lb9 rfl) rfl ?_); (conv => whnf); intro w1 hS) | refine ldN_f hS 0 rfl (lb9 rfl) ?_ | refine ldN_f hS 1 rfl (lb9 rfl) ?_ | refine ldN_f hS 2 rfl (lb9 rfl) ?_ | refine br_t (by assumption) ?_ | refine br_f (by assumption) ?_ | (refine dr9 hS ?_; intro w1 hS) | refine br_t (by assumption) ?_ | refine br_f (by assumption) ?_)
    all_goals first
      | exact hS.nil
      | rfl
  · have hm : needR x = { zeroRx x.k with vi := x.vi } := by
      unfold needR
      rw [if_neg (by omega), if_neg (by omega), if_neg (by omega), if_neg (by omega), if_neg (by omega), if_pos hk]
    have hh : needH x h = noHd := by
      unfold needH
      rw [if_neg (by omega), if_neg (by omega)]
    rw [hm, hh]
    clear hm hh
    have g1 : (x.k == 1) = false := by rw [hk]; rfl
    have g2 : (x.k == 2) = false := by rw [hk]; rfl
    have g3 : (x.k == 3) = false := by rw [hk]; rfl
    have g4 : (x.k == 4) = false := by rw [hk]; rfl
    have g5 : (x.k == 5) = false := by rw [hk]; rfl
    have g6 : (x.k == 6) = true := by rw [hk]; rfl
    have g7 : (x.k == 7) = false := by rw [hk]; rfl
    have g8 : (x.k == 8) = false := by rw [hk]; rfl
    refine fc_i TB_ok Tryz.func41 rfl (by kernel_rfl) ?_
    have hS := Sf.refl w
    repeat' ((conv => whnf); first | refine And.intro ?_ ?_ | (apply q_i; focus (intro w1 hS; (conv => whnf); first | exact ⟨rfl, rfl⟩ | ((first | refine ld_f hS 0 rfl rfl ?_ | refine ld_f hS 1 rfl rfl ?_ | refine ld_f hS 2 rfl rfl ?_ | refine ldA_f hS 0 rfl rfl ?_ | refine ldA_f hS 1 rfl rfl ?_ | refine ldA_f hS 2 rfl rfl ?_); (conv => whnf); exact ⟨rfl, rfl⟩) | ((refine ldN_f hS 0 rfl (lb9 rfl) ?_); (conv => whnf); exact ⟨rfl, rfl⟩) | ((refine ldN_f hS 1 rfl (lb9 rfl) ?_); (conv => whnf); exact ⟨rfl, rfl⟩) | ((refine ldN_f hS 2 rfl (lb9 rfl) ?_); (conv => whnf); exact ⟨rfl, rfl⟩) | ((refine br_t (by assumption) ?_); (conv => whnf); exact ⟨rfl, rfl⟩) | ((refine br_f (by assumption) ?_); (conv => whnf); exact ⟨rfl, rfl⟩))) | (refine nw_f hS ?_; intro b w1 hS) | refine as_i hS ?_ | refine as_i (hS.subs (List.nil_sublist _) sb9) ?_ | refine as_i (hS.subs (List.Sublist.refl _) sb9) ?_ | refine bar_f hS ?_ | refine ld_f hS 0 rfl rfl ?_ | refine ld_f hS 1 rfl rfl ?_ | refine ld_f hS 2 rfl rfl ?_ | refine ldA_f hS 0 rfl rfl ?_ | refine ldA_f hS 1 rfl rfl ?_ | refine ldA_f hS 2 rfl rfl ?_ | ((first | refine stN_f hS 0 rfl (lb9 rfl) rfl rfl ?_ | refine stN_f hS 1 rfl (lb9 rfl) rfl rfl ?_ | refine stN_f hS 2 rfl (lb9 rfl) rfl rfl ?_ | refine stM_f hS 0 rfl (lb9 rfl) rfl ?_ | refine stM_f hS 1 rfl (lb9 rfl) rfl ?_ | refine stM_f hS 2 rfl (lb9 rfl) rfl ?_); (conv => whnf); intro w1 hS) | refine ldN_f hS 0 rfl (lb9 rfl) ?_ | refine ldN_f hS 1 rfl (lb9 rfl) ?_ | refine ldN_f hS 2 rfl (lb9 rfl) ?_ | refine br_t (by assumption) ?_ | refine br_f (by assumption) ?_ | (refine dr9 hS ?_; intro w1 hS) | refine br_t (by assumption) ?_ | refine br_f (by assumption) ?_)
    all_goals first
      | exact hS.nil
      | rfl
  · have hm : needR x = { zeroRx x.k with ci := x.ci, cb := x.cb, cr := x.cr, cs := x.cs } := by
      unfold needR
      rw [if_neg (by omega), if_neg (by omega), if_neg (by omega), if_neg (by omega), if_neg (by omega), if_neg (by omega), if_pos hk]
    have hh : needH x h = noHd := by
      unfold needH
      rw [if_neg (by omega), if_neg (by omega)]
    rw [hm, hh]
    clear hm hh
    have g1 : (x.k == 1) = false := by rw [hk]; rfl
    have g2 : (x.k == 2) = false := by rw [hk]; rfl
    have g3 : (x.k == 3) = false := by rw [hk]; rfl
    have g4 : (x.k == 4) = false := by rw [hk]; rfl
    have g5 : (x.k == 5) = false := by rw [hk]; rfl
    have g6 : (x.k == 6) = false := by rw [hk]; rfl
    have g7 : (x.k == 7) = true := by rw [hk]; rfl
    have g8 : (x.k == 8) = false := by rw [hk]; rfl
    refine fc_i TB_ok Tryz.func41 rfl (by kernel_rfl) ?_
    have hS := Sf.refl w
    repeat' ((conv => whnf); first | refine And.intro ?_ ?_ | (apply q_i; focus (intro w1 hS; (conv => whnf); first | exact ⟨rfl, rfl⟩ | ((first | refine ld_f hS 0 rfl rfl ?_ | refine ld_f hS 1 rfl rfl ?_ | refine ld_f hS 2 rfl rfl ?_ | refine ldA_f hS 0 rfl rfl ?_ | refine ldA_f hS 1 rfl rfl ?_ | refine ldA_f hS 2 rfl rfl ?_); (conv => whnf); exact ⟨rfl, rfl⟩) | ((refine ldN_f hS 0 rfl (lb9 rfl) ?_); (conv => whnf); exact ⟨rfl, rfl⟩) | ((refine ldN_f hS 1 rfl (lb9 rfl) ?_); (conv => whnf); exact ⟨rfl, rfl⟩) | ((refine ldN_f hS 2 rfl (lb9 rfl) ?_); (conv => whnf); exact ⟨rfl, rfl⟩) | ((refine br_t (by assumption) ?_); (conv => whnf); exact ⟨rfl, rfl⟩) | ((refine br_f (by assumption) ?_); (conv => whnf); exact ⟨rfl, rfl⟩))) | (refine nw_f hS ?_; intro b w1 hS) | refine as_i hS ?_ | refine as_i (hS.subs (List.nil_sublist _) sb9) ?_ | refine as_i (hS.subs (List.Sublist.refl _) sb9) ?_ | refine bar_f hS ?_ | refine ld_f hS 0 rfl rfl ?_ | refine ld_f hS 1 rfl rfl ?_ | refine ld_f hS 2 rfl rfl ?_ | refine ldA_f hS 0 rfl rfl ?_ | refine ldA_f hS 1 rfl rfl ?_ | refine ldA_f hS 2 rfl rfl ?_ | ((first | refine stN_f hS 0 rfl (lb9 rfl) rfl rfl ?_ | refine stN_f hS 1 rfl (lb9 rfl) rfl rfl ?_ | refine stN_f hS 2 rfl (lb9 rfl) rfl rfl ?_ | refine stM_f hS 0 rfl (lb9 rfl) rfl ?_ | refine stM_f hS 1 rfl (lb9 rfl) rfl ?_ | refine stM_f hS 2 rfl (lb9 rfl) rfl ?_); (conv => whnf); intro w1 hS) | refine ldN_f hS 0 rfl (lb9 rfl) ?_ | refine ldN_f hS 1 rfl (lb9 rfl) ?_ | refine ldN_f hS 2 rfl (lb9 rfl) ?_ | refine br_t (by assumption) ?_ | refine br_f (by assumption) ?_ | (refine dr9 hS ?_; intro w1 hS) | refine br_t (by assumption) ?_ | refine br_f (by assumption) ?_)
    all_goals first
      | exact hS.nil
      | rfl
  · have hm : needR x = { zeroRx x.k with r := x.r, p := x.p, g := x.g } := by
      unfold needR
      rw [if_neg (by omega), if_neg (by omega), if_neg (by omega), if_neg (by omega), if_neg (by omega), if_neg (by omega), if_neg (by omega), if_pos hk]
    have hh : needH x h = noHd := by
      unfold needH
      rw [if_neg (by omega), if_neg (by omega)]
    rw [hm, hh]
    clear hm hh
    have g1 : (x.k == 1) = false := by rw [hk]; rfl
    have g2 : (x.k == 2) = false := by rw [hk]; rfl
    have g3 : (x.k == 3) = false := by rw [hk]; rfl
    have g4 : (x.k == 4) = false := by rw [hk]; rfl
    have g5 : (x.k == 5) = false := by rw [hk]; rfl
    have g6 : (x.k == 6) = false := by rw [hk]; rfl
    have g7 : (x.k == 7) = false := by rw [hk]; rfl
    have g8 : (x.k == 8) = true := by rw [hk]; rfl
    refine fc_i TB_ok Tryz.func41 rfl (by kernel_rfl) ?_
    have hS := Sf.refl w
    repeat ((conv => whnf); first | (apply q_i; focus (intro w1 hS; (conv => whnf); first | exact ⟨rfl, rfl⟩ | ((first | refine ld_f hS 0 rfl rfl ?_ | refine ld_f hS 1 rfl rfl ?_ | refine ld_f hS 2 rfl rfl ?_ | refine ldA_f hS 0 rfl rfl ?_ | refine ldA_f hS 1 rfl rfl ?_ | refine ldA_f hS 2 rfl rfl ?_); (conv => whnf); exact ⟨rfl, rfl⟩) | ((refine ldN_f hS 0 rfl (lb9 rfl) ?_); (conv => whnf); exact ⟨rfl, rfl⟩) | ((refine ldN_f hS 1 rfl (lb9 rfl) ?_); (conv => whnf); exact ⟨rfl, rfl⟩) | ((refine ldN_f hS 2 rfl (lb9 rfl) ?_); (conv => whnf); exact ⟨rfl, rfl⟩) | ((refine br_t (by assumption) ?_); (conv => whnf); exact ⟨rfl, rfl⟩) | ((refine br_f (by assumption) ?_); (conv => whnf); exact ⟨rfl, rfl⟩))) | (refine nw_f hS ?_; intro b w1 hS) | refine as_i hS ?_ | refine as_i (hS.subs (List.nil_sublist _) sb9) ?_ | refine as_i (hS.subs (List.Sublist.refl _) sb9) ?_ | refine bar_f hS ?_ | refine ld_f hS 0 rfl rfl ?_ | refine ld_f hS 1 rfl rfl ?_ | refine ld_f hS 2 rfl rfl ?_ | refine ldA_f hS 0 rfl rfl ?_ | refine ldA_f hS 1 rfl rfl ?_ | refine ldA_f hS 2 rfl rfl ?_ | ((first | refine stN_f hS 0 rfl (lb9 rfl) rfl rfl ?_ | refine stN_f hS 1 rfl (lb9 rfl) rfl rfl ?_ | refine stN_f hS 2 rfl (lb9 rfl) rfl rfl ?_ | refine stM_f hS 0 rfl (lb9 rfl) rfl ?_ | refine stM_f hS 1 rfl (lb9 rfl) rfl ?_ | refine stM_f hS 2 rfl (lb9 rfl) rfl ?_); (conv => whnf); intro w1 hS) | refine ldN_f hS 0 rfl (lb9 rfl) ?_ | refine ldN_f hS 1 rfl (lb9 rfl) ?_ | refine ldN_f hS 2 rfl (lb9 rfl) ?_ | refine br_t (by assumption) ?_ | refine br_f (by assumption) ?_ | refine br_t (by assumption) ?_ | refine br_f (by assumption) ?_)
    refine drawf (Ls := [_]) TB_ok rfl (by kernel_rfl) (by kernel_rfl) hS (List.Sublist.refl _) (.cons _ (.cons _ (.refl _))) ?_; intro w1 hS
    repeat' ((conv => whnf); first | refine And.intro ?_ ?_ | (apply q_i; focus (intro w1 hS; (conv => whnf); first | exact ⟨rfl, rfl⟩ | ((first | refine ld_f hS 0 rfl rfl ?_ | refine ld_f hS 1 rfl rfl ?_ | refine ld_f hS 2 rfl rfl ?_ | refine ldA_f hS 0 rfl rfl ?_ | refine ldA_f hS 1 rfl rfl ?_ | refine ldA_f hS 2 rfl rfl ?_); (conv => whnf); exact ⟨rfl, rfl⟩) | ((refine ldN_f hS 0 rfl (lb9 rfl) ?_); (conv => whnf); exact ⟨rfl, rfl⟩) | ((refine ldN_f hS 1 rfl (lb9 rfl) ?_); (conv => whnf); exact ⟨rfl, rfl⟩) | ((refine ldN_f hS 2 rfl (lb9 rfl) ?_); (conv => whnf); exact ⟨rfl, rfl⟩) | ((refine br_t (by assumption) ?_); (conv => whnf); exact ⟨rfl, rfl⟩) | ((refine br_f (by assumption) ?_); (conv => whnf); exact ⟨rfl, rfl⟩))) | (refine nw_f hS ?_; intro b w1 hS) | refine as_i hS ?_ | refine as_i (hS.subs (List.nil_sublist _) sb9) ?_ | refine as_i (hS.subs (List.Sublist.refl _) sb9) ?_ | refine bar_f hS ?_ | refine ld_f hS 0 rfl rfl ?_ | refine ld_f hS 1 rfl rfl ?_ | refine ld_f hS 2 rfl rfl ?_ | refine ldA_f hS 0 rfl rfl ?_ | refine ldA_f hS 1 rfl rfl ?_ | refine ldA_f hS 2 rfl rfl ?_ | ((first | refine stN_f hS 0 rfl (lb9 rfl) rfl rfl ?_ | refine stN_f hS 1 rfl (lb9 rfl) rfl rfl ?_ | refine stN_f hS 2 rfl (lb9 rfl) rfl rfl ?_ | refine stM_f hS 0 rfl (lb9 rfl) rfl ?_ | refine stM_f hS 1 rfl (lb9 rfl) rfl ?_ | refine stM_f hS 2 rfl (lb9 rfl) rfl ?_); (conv => whnf); intro w1 hS) | refine ldN_f hS 0 rfl (lb9 rfl) ?_ | refine ldN_f hS 1 rfl (lb9 rfl) ?_ | refine ldN_f hS 2 rfl (lb9 rfl) ?_ | refine br_t (by assumption) ?_ | refine br_f (by assumption) ?_ | (refine dr9 hS ?_; intro w1 hS) | refine br_t (by assumption) ?_ | refine br_f (by assumption) ?_)
    all_goals first
      | exact hS.nil
      | rfl
  · have hm : needR x = zeroRx x.k := by
      unfold needR
      rw [if_neg (by omega), if_neg (by omega), if_neg (by omega), if_neg (by omega), if_neg (by omega), if_neg (by omega), if_neg (by omega), if_neg (by omega)]
    have hh : needH x h = noHd := by
      unfold needH
      rw [if_neg (by omega), if_neg (by omega)]
    rw [hm, hh]
    clear hm hh
    have g1 : (x.k == 1) = false := by simp; omega
    have g2 : (x.k == 2) = false := by simp; omega
    have g3 : (x.k == 3) = false := by simp; omega
    have g4 : (x.k == 4) = false := by simp; omega
    have g5 : (x.k == 5) = false := by simp; omega
    have g6 : (x.k == 6) = false := by simp; omega
    have g7 : (x.k == 7) = false := by simp; omega
    have g8 : (x.k == 8) = false := by simp; omega
    refine fc_i TB_ok Tryz.func41 rfl (by kernel_rfl) ?_
    have hS := Sf.refl w
    repeat' ((conv => whnf); first | refine And.intro ?_ ?_ | (apply q_i; focus (intro w1 hS; (conv => whnf); first | exact ⟨rfl, rfl⟩ | ((first | refine ld_f hS 0 rfl rfl ?_ | refine ld_f hS 1 rfl rfl ?_ | refine ld_f hS 2 rfl rfl ?_ | refine ldA_f hS 0 rfl rfl ?_ | refine ldA_f hS 1 rfl rfl ?_ | refine ldA_f hS 2 rfl rfl ?_); (conv => whnf); exact ⟨rfl, rfl⟩) | ((refine ldN_f hS 0 rfl (lb9 rfl) ?_); (conv => whnf); exact ⟨rfl, rfl⟩) | ((refine ldN_f hS 1 rfl (lb9 rfl) ?_); (conv => whnf); exact ⟨rfl, rfl⟩) | ((refine ldN_f hS 2 rfl (lb9 rfl) ?_); (conv => whnf); exact ⟨rfl, rfl⟩) | ((refine br_t (by assumption) ?_); (conv => whnf); exact ⟨rfl, rfl⟩) | ((refine br_f (by assumption) ?_); (conv => whnf); exact ⟨rfl, rfl⟩))) | (refine nw_f hS ?_; intro b w1 hS) | refine as_i hS ?_ | refine as_i (hS.subs (List.nil_sublist _) sb9) ?_ | refine as_i (hS.subs (List.Sublist.refl _) sb9) ?_ | refine bar_f hS ?_ | refine ld_f hS 0 rfl rfl ?_ | refine ld_f hS 1 rfl rfl ?_ | refine ld_f hS 2 rfl rfl ?_ | refine ldA_f hS 0 rfl rfl ?_ | refine ldA_f hS 1 rfl rfl ?_ | refine ldA_f hS 2 rfl rfl ?_ | ((first | refine stN_f hS 0 rfl (lb9 rfl) rfl rfl ?_ | refine stN_f hS 1 rfl (lb9 rfl) rfl rfl ?_ | refine stN_f hS 2 rfl (lb9 rfl) rfl rfl ?_ | refine stM_f hS 0 rfl (lb9 rfl) rfl ?_ | refine stM_f hS 1 rfl (lb9 rfl) rfl ?_ | refine stM_f hS 2 rfl (lb9 rfl) rfl ?_); (conv => whnf); intro w1 hS) | refine ldN_f hS 0 rfl (lb9 rfl) ?_ | refine ldN_f hS 1 rfl (lb9 rfl) ?_ | refine ldN_f hS 2 rfl (lb9 rfl) ?_ | refine br_t (by assumption) ?_ | refine br_f (by assumption) ?_ | (refine dr9 hS ?_; intro w1 hS) | refine br_t (by assumption) ?_ | refine br_f (by assumption) ?_)
    all_goals first
      | exact hS.nil
      | rfl
end Go.RV


set_option maxRecDepth 20000
set_option linter.unusedVariables false
set_option linter.unusedSimpArgs false
namespace Go.RV
open Go Go.Proofs Go.RowKit

theorem MemR.need {w : World} {x : Rx} {h : Hd} {ms : List Sm} (m : MemR w x h ms) : MemR w (needR x) (needH x h) (needM x ms) := by
  have h0 : RdM w none [] := ⟨.inl rfl, fun m hm => nomatch hm⟩
  have hv : Rd w none (flat encU zeroVa.ks) := .inl rfl
  by_cases h4 : x.k = 4
  · have e1 : needR x = { zeroRx x.k with p := x.p, f := x.f, xs := x.xs } := by
      unfold needR
      rw [if_neg (by omega), if_neg (by omega), if_neg (by omega), if_pos h4]
    have e2 : needH x h = ⟨h.A, h.c, none, 0⟩ := by unfold needH; rw [if_pos h4]
    have e3 : needM x ms = ms := by unfold needM; rw [if_pos h4]
    rw [e1, e2, e3]
    exact ⟨m.eq, m.l, hv⟩
  · have e3 : needM x ms = [] := by unfold needM; rw [if_neg h4]
    rw [e3]
    by_cases h5 : x.k = 5
    · have e1 : needR x = { zeroRx x.k with p := x.p, vi := x.vi, vt := x.vt, vc := x.vc, v := x.v } := by
        unfold needR
        rw [if_neg (by omega), if_neg (by omega), if_neg (by omega), if_neg (by omega), if_pos h5]
      have e2 : needH x h = ⟨none, 0, h.B, h.e⟩ := by unfold needH; rw [if_neg h4, if_pos h5]
      rw [e1, e2]
      exact ⟨rfl, h0, m.v⟩
    · have e2 : needH x h = noHd := by unfold needH; rw [if_neg h4, if_neg h5]
      rw [e2]
      have e1 : (needR x).xs = [] ∧ (needR x).v = zeroVa := by
        unfold needR
        repeat' split
        all_goals first
          | exact ⟨rfl, rfl⟩
          | omega
      exact ⟨e1.1, h0, by rw [e1.2]; exact hv⟩
structure szR (x : Rx) : Prop where
  p : x.p.length ≤ 1000
  l : x.xs.length ≤ 1073741824
  el : ∀ s ∈ x.xs, s.v.ks.length ≤ 1073741824
  v : x.v.ks.length ≤ 1073741824
theorem fewR.sz {x : Rx} (h : fewR x) : szR x := ⟨by have := h.p; omega, by have := h.l; omega, fun s hs => by have := h.el s hs; omega, by have := h.v; omega⟩
set_option maxHeartbeats 4000000 in
theorem check18_c (x : Rx) (ho : okR x) (hz : szR x) (h : Hd) (ms : List Sm) (w : World) (hx : MemR w x h ms) :
    Fc Tryz.prog 15 [recV x h] w fun v w' => v = .int .i64 (if checkR x then 0 else 4) ∧ St [] w w' [] := by
  have hm := fun w' => rmay18_c x ho h ms w'
  have hs := fun w' => sameR_c x (needR x) h (needH x h) ms (needM x ms) w'
  have hn := fun w' => need_c x h w'
  have hc : checkR x = (mayR x && sameR x (needR x)) := rfl
  rw [hc]
  have hp := hz.p
  have hl := hz.l
  have hv := hz.v
  generalize mayR x = a at *
  generalize sameR x (needR x) = c at *
  refine fc_i TB_ok Tryz.func15 rfl (by kernel_rfl) ?_
  have hS := Sf.refl w
  cases a with
  | false =>
    repeat ((conv => whnf); first | (apply q_i; focus (intro w1 hS; (conv => whnf); first | exact ⟨rfl, rfl⟩ | ((first | refine ld_f hS 0 rfl rfl ?_ | refine ldA_f hS 0 rfl rfl ?_); (conv => whnf); exact ⟨rfl, rfl⟩))) | (refine nw_f hS ?_; intro b w1 hS) | refine as_i hS ?_ | refine as_i (hS.subs (List.nil_sublist _) sb9) ?_ | refine as_i (hS.subs (List.Sublist.refl _) sb9) ?_ | refine bar_f hS ?_ | refine ld_f hS 0 rfl rfl ?_ | refine ldA_f hS 0 rfl rfl ?_ | ((first | refine stN_f hS 0 rfl (lb9 rfl) rfl rfl ?_ | refine stM_f hS 0 rfl (lb9 rfl) rfl ?_); (conv => whnf); intro w1 hS) | (refine fc_m (hm _ (hx.below hS.nil) hp hl hz.el hv) ?_; rintro v w3 ⟨rfl, hS'⟩; replace hS := hS.call0 hS') | (refine dr9 hS ?_; intro w1 hS) | refine br_t (by assumption) ?_ | refine br_f (by assumption) ?_)
    exact ⟨rfl, hS.nil⟩
  | true =>
    cases c with
    | true =>
      repeat ((conv => whnf); first | (apply q_i; focus (intro w1 hS; (conv => whnf); first | exact ⟨rfl, rfl⟩ | ((first | refine ld_f hS 0 rfl rfl ?_ | refine ldA_f hS 0 rfl rfl ?_); (conv => whnf); exact ⟨rfl, rfl⟩))) | (refine nw_f hS ?_; intro b w1 hS) | refine as_i hS ?_ | refine as_i (hS.subs (List.nil_sublist _) sb9) ?_ | refine as_i (hS.subs (List.Sublist.refl _) sb9) ?_ | refine bar_f hS ?_ | refine ld_f hS 0 rfl rfl ?_ | refine ldA_f hS 0 rfl rfl ?_ | ((first | refine stN_f hS 0 rfl (lb9 rfl) rfl rfl ?_ | refine stM_f hS 0 rfl (lb9 rfl) rfl ?_); (conv => whnf); intro w1 hS) | (refine fc_m (hm _ (hx.below hS.nil) hp hl hz.el hv) ?_; rintro v w3 ⟨rfl, hS'⟩; replace hS := hS.call0 hS') | (refine fc_m (hn _) ?_; rintro v w3 ⟨rfl, hS'⟩; replace hS := hS.call0 hS') | (refine fc_m (hs _ (hx.below hS.nil) (hx.below hS.nil).need hl hz.el hv) ?_; rintro v w3 ⟨rfl, hS'⟩; replace hS := hS.call0 hS') | (refine dr9 hS ?_; intro w1 hS) | refine br_t (by assumption) ?_ | refine br_f (by assumption) ?_)
      exact ⟨rfl, hS.nil⟩
    | false =>
      repeat ((conv => whnf); first | (apply q_i; focus (intro w1 hS; (conv => whnf); first | exact ⟨rfl, rfl⟩ | ((first | refine ld_f hS 0 rfl rfl ?_ | refine ldA_f hS 0 rfl rfl ?_); (conv => whnf); exact ⟨rfl, rfl⟩))) | (refine nw_f hS ?_; intro b w1 hS) | refine as_i hS ?_ | refine as_i (hS.subs (List.nil_sublist _) sb9) ?_ | refine as_i (hS.subs (List.Sublist.refl _) sb9) ?_ | refine bar_f hS ?_ | refine ld_f hS 0 rfl rfl ?_ | refine ldA_f hS 0 rfl rfl ?_ | ((first | refine stN_f hS 0 rfl (lb9 rfl) rfl rfl ?_ | refine stM_f hS 0 rfl (lb9 rfl) rfl ?_); (conv => whnf); intro w1 hS) | (refine fc_m (hm _ (hx.below hS.nil) hp hl hz.el hv) ?_; rintro v w3 ⟨rfl, hS'⟩; replace hS := hS.call0 hS') | (refine fc_m (hn _) ?_; rintro v w3 ⟨rfl, hS'⟩; replace hS := hS.call0 hS') | (refine fc_m (hs _ (hx.below hS.nil) (hx.below hS.nil).need hl hz.el hv) ?_; rintro v w3 ⟨rfl, hS'⟩; replace hS := hS.call0 hS') | (refine dr9 hS ?_; intro w1 hS) | refine br_t (by assumption) ?_ | refine br_f (by assumption) ?_)
      exact ⟨rfl, hS.nil⟩
theorem putPath_c (bw : Nat) (bs : List UInt8) (L : LM) (hW : Wr bw bs L) (p : List UInt8) (hp : p.length ≤ 255) (w : World) (hS : St (keys L) w w L) (hn : bs.length ≤ 35184372088832) :
    Fc Tryz.prog 65 [.pointer (some ⟨bw, 0, none⟩), .string (strY p)] w fun v w' => ∃ L', Wr bw (bs ++ pathT p) L' ∧ St (keys L) w w' L' := by
  have hpz := strY_size p
  refine fc_i TB_ok Tryz.func65 rfl (by kernel_rfl) ?_
  have hS : Sf (keys L) w w (L ++ []) [] := ⟨by simpa using hS⟩
  repeat ((conv => whnf); first | (apply q_i; focus (intro w1 hS; (conv => whnf); first | exact ⟨rfl, rfl⟩ | ((first | refine ld_f hS 0 rfl rfl ?_ | refine ldA_f hS 0 rfl rfl ?_); (conv => whnf); exact ⟨rfl, rfl⟩))) | (refine nw_f hS ?_; intro b w1 hS) | refine as_i hS ?_ | refine as_i (hS.subs (List.nil_sublist _) sb9) ?_ | refine as_i (hS.subs (List.Sublist.refl _) sb9) ?_ | refine bar_f hS ?_ | refine ld_f hS 0 rfl rfl ?_ | refine ldA_f hS 0 rfl rfl ?_ | ((first | refine stN_f hS 0 rfl (lb9 rfl) rfl rfl ?_ | refine stM_f hS 0 rfl (lb9 rfl) rfl ?_); (conv => whnf); intro w1 hS) | (refine dr9 hS ?_; intro w1 hS) | refine br_t (by assumption) ?_ | refine br_f (by assumption) ?_)
  (conv => whnf)
  refine fc_m (w8u_c _ _ L hW _ (by omega) (by omega) _ hS.ownF (by omega)) ?_
  rintro v w2 ⟨L2, hW2, hS'⟩
  replace hS := hS.callW hS'
  repeat ((conv => whnf); first | (apply q_i; focus (intro w1 hS; (conv => whnf); first | exact ⟨rfl, rfl⟩ | ((first | refine ld_f hS 0 rfl rfl ?_ | refine ldA_f hS 0 rfl rfl ?_); (conv => whnf); exact ⟨rfl, rfl⟩))) | (refine nw_f hS ?_; intro b w1 hS) | refine as_i hS ?_ | refine as_i (hS.subs (List.nil_sublist _) sb9) ?_ | refine as_i (hS.subs (List.Sublist.refl _) sb9) ?_ | refine bar_f hS ?_ | refine ld_f hS 0 rfl rfl ?_ | refine ldA_f hS 0 rfl rfl ?_ | ((first | refine stN_f hS 0 rfl (lb9 rfl) rfl rfl ?_ | refine stM_f hS 0 rfl (lb9 rfl) rfl ?_); (conv => whnf); intro w1 hS) | (refine dr9 hS ?_; intro w1 hS) | refine br_t (by assumption) ?_ | refine br_f (by assumption) ?_)
  (conv => whnf)
  refine fc_m (raw_c _ _ p L2 hW2 _ hS.ownF (by simp [be_len]; omega)) ?_
  rintro v w3 ⟨L3, hW3, hS'⟩
  replace hS := hS.callW hS'
  repeat ((conv => whnf); first | (apply q_i; focus (intro w1 hS; (conv => whnf); first | exact ⟨rfl, rfl⟩ | ((first | refine ld_f hS 0 rfl rfl ?_ | refine ldA_f hS 0 rfl rfl ?_); (conv => whnf); exact ⟨rfl, rfl⟩))) | (refine nw_f hS ?_; intro b w1 hS) | refine as_i hS ?_ | refine as_i (hS.subs (List.nil_sublist _) sb9) ?_ | refine as_i (hS.subs (List.Sublist.refl _) sb9) ?_ | refine bar_f hS ?_ | refine ld_f hS 0 rfl rfl ?_ | refine ldA_f hS 0 rfl rfl ?_ | ((first | refine stN_f hS 0 rfl (lb9 rfl) rfl rfl ?_ | refine stM_f hS 0 rfl (lb9 rfl) rfl ?_); (conv => whnf); intro w1 hS) | (refine dr9 hS ?_; intro w1 hS) | refine br_t (by assumption) ?_ | refine br_f (by assumption) ?_)
  (conv => whnf)
  have h2 := hS.fr (List.Sublist.refl _)
  rw [List.append_nil] at h2
  refine ⟨L3, ?_, h2⟩
  rw [hpz] at hW3
  unfold pathT
  rw [← List.append_assoc]
  exact hW3
theorem putVec_c (bw : Nat) (bs : List UInt8) (L : LM) (hW : Wr bw bs L) (f : Nat → Int) (hf : ∀ j, j < 8 → 0 ≤ f j ∧ f j ≤ 65535) (w : World) (hS : St (keys L) w w L) (hn : bs.length ≤ 35184372088832) :
    Fc Tryz.prog 69 [.pointer (some ⟨bw, 0, none⟩), vecV f] w fun v w' => ∃ L', Wr bw (bs ++ ctxT f) L' ∧ St (keys L) w w' L' := by
  refine fc_i TB_ok Tryz.func69 rfl (by kernel_rfl) ?_
  have hS : Sf (keys L) w w (L ++ []) [] := ⟨by simpa using hS⟩
  repeat ((conv => whnf); first | (apply q_i; focus (intro w1 hS; (conv => whnf); first | exact ⟨rfl, rfl⟩ | ((first | refine ld_f hS 0 rfl rfl ?_ | refine ldA_f hS 0 rfl rfl ?_); (conv => whnf); exact ⟨rfl, rfl⟩))) | (refine nw_f hS ?_; intro b w1 hS) | refine as_i hS ?_ | refine as_i (hS.subs (List.nil_sublist _) sb9) ?_ | refine as_i (hS.subs (List.Sublist.refl _) sb9) ?_ | refine bar_f hS ?_ | refine ld_f hS 0 rfl rfl ?_ | refine ldA_f hS 0 rfl rfl ?_ | ((first | refine stN_f hS 0 rfl (lb9 rfl) rfl rfl ?_ | refine stM_f hS 0 rfl (lb9 rfl) rfl ?_); (conv => whnf); intro w1 hS) | (refine dr9 hS ?_; intro w1 hS) | refine br_t (by assumption) ?_ | refine br_f (by assumption) ?_)
  refine loop_i TB_ok (fun i : Nat => [(10, .int .i64 i), (4, .int .u8 (bitsN f i))]) (fun i w' => i ≤ 8 ∧ Sf (keys L) w w' (L ++ []) [_]) (fun i => 8 - i) 0 rfl ⟨Nat.zero_le _, hS⟩ ?_
  rintro i us w2 ⟨hi, hS⟩
  (conv => whnf)
  refine br_i (fun hb => ?_) (fun hb => ?_)
  · have hlt : i < 8 := by have := of_decide_eq_true hb; omega
    have hfi := hf i hlt
    have hbl := bitsN_lt f i
    repeat ((conv => whnf); first | (apply q_i; focus (intro w1 hS; (conv => whnf); first | exact ⟨rfl, rfl⟩ | ((first | refine ld_f hS 0 rfl rfl ?_ | refine ldA_f hS 0 rfl rfl ?_); (conv => whnf); exact ⟨rfl, rfl⟩) | ((refine idxVec (f := f) hlt ?_); (conv => whnf); exact ⟨rfl, rfl⟩))) | (refine nw_f hS ?_; intro b w1 hS) | refine as_i hS ?_ | refine as_i (hS.subs (List.nil_sublist _) sb9) ?_ | refine as_i (hS.subs (List.Sublist.refl _) sb9) ?_ | refine bar_f hS ?_ | refine ld_f hS 0 rfl rfl ?_ | refine ldA_f hS 0 rfl rfl ?_ | ((first | refine stN_f hS 0 rfl (lb9 rfl) rfl rfl ?_ | refine stM_f hS 0 rfl (lb9 rfl) rfl ?_); (conv => whnf); intro w1 hS) | refine idxVec (f := f) hlt ?_ | (refine dr9 hS ?_; intro w1 hS) | refine br_t (by assumption) ?_ | refine br_f (by assumption) ?_)
    refine br_i (fun h1 => ?_) (fun h1 => ?_)
    · have h1' : 0 < f i := of_decide_eq_true h1
      repeat ((conv => whnf); first | (apply q_i; focus (intro w1 hS; (conv => whnf); first | exact ⟨rfl, rfl⟩ | ((first | refine ld_f hS 0 rfl rfl ?_ | refine ldA_f hS 0 rfl rfl ?_); (conv => whnf); exact ⟨rfl, rfl⟩) | ((refine .mk (by show (0 : Int) ≤ ((i : Nat) : Int); omega) ?_); (conv => whnf); exact ⟨rfl, rfl⟩))) | (refine nw_f hS ?_; intro b w1 hS) | refine as_i hS ?_ | refine as_i (hS.subs (List.nil_sublist _) sb9) ?_ | refine as_i (hS.subs (List.Sublist.refl _) sb9) ?_ | refine bar_f hS ?_ | refine ld_f hS 0 rfl rfl ?_ | refine ldA_f hS 0 rfl rfl ?_ | ((first | refine stN_f hS 0 rfl (lb9 rfl) rfl rfl ?_ | refine stM_f hS 0 rfl (lb9 rfl) rfl ?_); (conv => whnf); intro w1 hS) | (refine .mk (by show (0 : Int) ≤ ((i : Nat) : Int); omega) ?_) | (refine dr9 hS ?_; intro w1 hS) | refine br_t (by assumption) ?_ | refine br_f (by assumption) ?_)
      refine ⟨rfl, i + 1, ?_, ⟨by omega, hS⟩, by omega⟩
      have e1 : bitsN f (i + 1) = bOr .u8 (bitsN f i) (bShl .u8 1 (i : Int)) := by rw [orBit' hbl.1 hbl.2 hlt, bitsN, if_pos h1']
      rw [wi8 hlt, e1]
      rfl
    · have h1' : ¬ 0 < f i := of_decide_eq_false h1
      repeat ((conv => whnf); first | (apply q_i; focus (intro w1 hS; (conv => whnf); first | exact ⟨rfl, rfl⟩ | ((first | refine ld_f hS 0 rfl rfl ?_ | refine ldA_f hS 0 rfl rfl ?_); (conv => whnf); exact ⟨rfl, rfl⟩))) | (refine nw_f hS ?_; intro b w1 hS) | refine as_i hS ?_ | refine as_i (hS.subs (List.nil_sublist _) sb9) ?_ | refine as_i (hS.subs (List.Sublist.refl _) sb9) ?_ | refine bar_f hS ?_ | refine ld_f hS 0 rfl rfl ?_ | refine ldA_f hS 0 rfl rfl ?_ | ((first | refine stN_f hS 0 rfl (lb9 rfl) rfl rfl ?_ | refine stM_f hS 0 rfl (lb9 rfl) rfl ?_); (conv => whnf); intro w1 hS) | (refine dr9 hS ?_; intro w1 hS) | refine br_t (by assumption) ?_ | refine br_f (by assumption) ?_)
      refine ⟨rfl, i + 1, ?_, ⟨by omega, hS⟩, by omega⟩
      rw [wi8 hlt, show bitsN f (i + 1) = bitsN f i from by rw [bitsN, if_neg h1']]
      rfl
  · have hge : i = 8 := by have := of_decide_eq_false hb; omega
    subst hge
    have hbl := bitsN_lt f 8
    repeat ((conv => whnf); first | (apply q_i; focus (intro w1 hS; (conv => whnf); first | exact ⟨rfl, rfl⟩ | ((first | refine ld_f hS 0 rfl rfl ?_ | refine ldA_f hS 0 rfl rfl ?_); (conv => whnf); exact ⟨rfl, rfl⟩))) | (refine nw_f hS ?_; intro b w1 hS) | refine as_i hS ?_ | refine as_i (hS.subs (List.nil_sublist _) sb9) ?_ | refine as_i (hS.subs (List.Sublist.refl _) sb9) ?_ | refine bar_f hS ?_ | refine ld_f hS 0 rfl rfl ?_ | refine ldA_f hS 0 rfl rfl ?_ | ((first | refine stN_f hS 0 rfl (lb9 rfl) rfl rfl ?_ | refine stM_f hS 0 rfl (lb9 rfl) rfl ?_); (conv => whnf); intro w1 hS) | (refine dr9 hS ?_; intro w1 hS) | refine br_t (by assumption) ?_ | refine br_f (by assumption) ?_)
    refine fc_m (w8_c bw bs L hW (bitsN f 8) hbl.1 (by omega) _ hS.ownF (by omega)) ?_
    rintro v w3 ⟨L1, hW1, hS'⟩
    replace hS := hS.callW hS'
    repeat ((conv => whnf); first | (apply q_i; focus (intro w1 hS; (conv => whnf); first | exact ⟨rfl, rfl⟩ | ((first | refine ld_f hS 0 rfl rfl ?_ | refine ldA_f hS 0 rfl rfl ?_); (conv => whnf); exact ⟨rfl, rfl⟩))) | (refine nw_f hS ?_; intro b w1 hS) | refine as_i hS ?_ | refine as_i (hS.subs (List.nil_sublist _) sb9) ?_ | refine as_i (hS.subs (List.Sublist.refl _) sb9) ?_ | refine bar_f hS ?_ | refine ld_f hS 0 rfl rfl ?_ | refine ldA_f hS 0 rfl rfl ?_ | ((first | refine stN_f hS 0 rfl (lb9 rfl) rfl rfl ?_ | refine stM_f hS 0 rfl (lb9 rfl) rfl ?_); (conv => whnf); intro w1 hS) | (refine dr9 hS ?_; intro w1 hS) | refine br_t (by assumption) ?_ | refine br_f (by assumption) ?_)
    refine loop_i TB_ok (fun i : Nat => [(25, .int .i64 i)]) (fun i w' => i ≤ 8 ∧ ∃ L', Wr bw (bs ++ be (bitsN f 8) 1 ++ num2 f i) L' ∧ Sf (keys L) w w' (L' ++ []) [_]) (fun i => 8 - i) 0 rfl ⟨Nat.zero_le _, L1, by simpa [num2] using hW1, hS⟩ ?_
    rintro i us w4 ⟨hi, L2, hW2, hS⟩
    (conv => whnf)
    refine br_i (fun hb => ?_) (fun hb => ?_)
    · have hlt : i < 8 := by have := of_decide_eq_true hb; omega
      have hfi := hf i hlt
      have hnl := num2_len f i
      have hbe := be_len (bitsN f 8) 1
      have hw16 : IntKind.u16.wrap (f i) = f i := by rw [wrap_u16_mod]; omega
      repeat ((conv => whnf); first | (apply q_i; focus (intro w1 hS; (conv => whnf); first | exact ⟨rfl, rfl⟩ | ((first | refine ld_f hS 0 rfl rfl ?_ | refine ldA_f hS 0 rfl rfl ?_); (conv => whnf); exact ⟨rfl, rfl⟩) | ((refine idxVec (f := f) hlt ?_); (conv => whnf); exact ⟨rfl, rfl⟩))) | (refine nw_f hS ?_; intro b w1 hS) | refine as_i hS ?_ | refine as_i (hS.subs (List.nil_sublist _) sb9) ?_ | refine as_i (hS.subs (List.Sublist.refl _) sb9) ?_ | refine bar_f hS ?_ | refine ld_f hS 0 rfl rfl ?_ | refine ldA_f hS 0 rfl rfl ?_ | ((first | refine stN_f hS 0 rfl (lb9 rfl) rfl rfl ?_ | refine stM_f hS 0 rfl (lb9 rfl) rfl ?_); (conv => whnf); intro w1 hS) | refine idxVec (f := f) hlt ?_ | (refine dr9 hS ?_; intro w1 hS) | refine br_t (by assumption) ?_ | refine br_f (by assumption) ?_)
      refine br_i (fun h1 => ?_) (fun h1 => ?_)
      · have h1' : 0 < f i := of_decide_eq_true h1
        have hw := w16_c bw _ L2 hW2 (f i) hfi.1 (by omega) w4
        rw [← hw16] at hw
        repeat ((conv => whnf); first | (apply q_i; focus (intro w1 hS; (conv => whnf); first | exact ⟨rfl, rfl⟩ | ((first | refine ld_f hS 0 rfl rfl ?_ | refine ldA_f hS 0 rfl rfl ?_); (conv => whnf); exact ⟨rfl, rfl⟩))) | (refine nw_f hS ?_; intro b w1 hS) | refine as_i hS ?_ | refine as_i (hS.subs (List.nil_sublist _) sb9) ?_ | refine as_i (hS.subs (List.Sublist.refl _) sb9) ?_ | refine bar_f hS ?_ | refine ld_f hS 0 rfl rfl ?_ | refine ldA_f hS 0 rfl rfl ?_ | ((first | refine stN_f hS 0 rfl (lb9 rfl) rfl rfl ?_ | refine stM_f hS 0 rfl (lb9 rfl) rfl ?_); (conv => whnf); intro w1 hS) | (refine dr9 hS ?_; intro w1 hS) | refine br_t (by assumption) ?_ | refine br_f (by assumption) ?_)
        (conv => whnf)
        refine fc_m (hw hS.ownF (by rw [List.length_append, List.length_append, hbe]; omega)) ?_
        rintro v w5 ⟨L3, hW3, hS'⟩
        rw [hw16] at hW3
        replace hS := hS.callW hS'
        repeat ((conv => whnf); first | (apply q_i; focus (intro w1 hS; (conv => whnf); first | exact ⟨rfl, rfl⟩ | ((first | refine ld_f hS 0 rfl rfl ?_ | refine ldA_f hS 0 rfl rfl ?_); (conv => whnf); exact ⟨rfl, rfl⟩))) | (refine nw_f hS ?_; intro b w1 hS) | refine as_i hS ?_ | refine as_i (hS.subs (List.nil_sublist _) sb9) ?_ | refine as_i (hS.subs (List.Sublist.refl _) sb9) ?_ | refine bar_f hS ?_ | refine ld_f hS 0 rfl rfl ?_ | refine ldA_f hS 0 rfl rfl ?_ | ((first | refine stN_f hS 0 rfl (lb9 rfl) rfl rfl ?_ | refine stM_f hS 0 rfl (lb9 rfl) rfl ?_); (conv => whnf); intro w1 hS) | (refine dr9 hS ?_; intro w1 hS) | refine br_t (by assumption) ?_ | refine br_f (by assumption) ?_)
        refine ⟨rfl, i + 1, ?_, ⟨by omega, L3, ?_, hS⟩, by omega⟩
        · rw [wi8 hlt]
          rfl
        · rw [num2, if_pos h1', ← List.append_assoc]
          exact hW3
      · have h1' : ¬ 0 < f i := of_decide_eq_false h1
        repeat ((conv => whnf); first | (apply q_i; focus (intro w1 hS; (conv => whnf); first | exact ⟨rfl, rfl⟩ | ((first | refine ld_f hS 0 rfl rfl ?_ | refine ldA_f hS 0 rfl rfl ?_); (conv => whnf); exact ⟨rfl, rfl⟩))) | (refine nw_f hS ?_; intro b w1 hS) | refine as_i hS ?_ | refine as_i (hS.subs (List.nil_sublist _) sb9) ?_ | refine as_i (hS.subs (List.Sublist.refl _) sb9) ?_ | refine bar_f hS ?_ | refine ld_f hS 0 rfl rfl ?_ | refine ldA_f hS 0 rfl rfl ?_ | ((first | refine stN_f hS 0 rfl (lb9 rfl) rfl rfl ?_ | refine stM_f hS 0 rfl (lb9 rfl) rfl ?_); (conv => whnf); intro w1 hS) | (refine dr9 hS ?_; intro w1 hS) | refine br_t (by assumption) ?_ | refine br_f (by assumption) ?_)
        refine ⟨rfl, i + 1, ?_, ⟨by omega, L2, ?_, hS⟩, by omega⟩
        · rw [wi8 hlt]
          rfl
        · rw [num2, if_neg h1']
          exact hW2
    · have hge : i = 8 := by have := of_decide_eq_false hb; omega
      subst hge
      rw [List.append_assoc] at hW2
      repeat ((conv => whnf); first | (apply q_i; focus (intro w1 hS; (conv => whnf); first | exact ⟨rfl, rfl⟩ | ((first | refine ld_f hS 0 rfl rfl ?_ | refine ldA_f hS 0 rfl rfl ?_); (conv => whnf); exact ⟨rfl, rfl⟩))) | (refine nw_f hS ?_; intro b w1 hS) | refine as_i hS ?_ | refine as_i (hS.subs (List.nil_sublist _) sb9) ?_ | refine as_i (hS.subs (List.Sublist.refl _) sb9) ?_ | refine bar_f hS ?_ | refine ld_f hS 0 rfl rfl ?_ | refine ldA_f hS 0 rfl rfl ?_ | ((first | refine stN_f hS 0 rfl (lb9 rfl) rfl rfl ?_ | refine stM_f hS 0 rfl (lb9 rfl) rfl ?_); (conv => whnf); intro w1 hS) | (refine dr9 hS ?_; intro w1 hS) | refine br_t (by assumption) ?_ | refine br_f (by assumption) ?_)
      (conv => whnf)
      have h2 := hS.fr (List.Sublist.refl _)
      rw [List.append_nil] at h2
      exact ⟨L2, hW2, h2⟩
theorem valT_len {v : Va} (h : okV v = true) : (vaT v).length ≤ 19 := by
  have h1 := okVB_len h
  have h2 := headT_len v.d v.n
  unfold vaT valT
  rw [List.length_append, idsT_len]
  omega
def vaV (v : Va) (A : Option Addr) (c : Nat) : Value := valV v.d v.n A v.ks.length c
theorem vaPut_c (v : Va) (ho : okVa v) (hk : okV v = true) (A : Option Addr) (c : Nat) (w : World) (hR : Rd w A (flat encU v.ks)) :
    Fc Tryz.prog 117 [vaV v A c] w fun u w' => u = .tuple #[.string (strY (vaT v)), .int .i64 0] ∧ St [] w w' [] := by
  have h1 := vaput_c v.d v.n ho.1.2 A c v.ks ho.2 w hR (by have := okVB_len hk; omega)
  rw [show okVB v.d v.n v.ks = true from hk] at h1
  exact h1
theorem putValue_c (bw : Nat) (bs : List UInt8) (L : LM) (hW : Wr bw bs L) (v : Va) (ho : okVa v) (hk : okV v = true) (A : Option Addr) (c : Nat) (w : World) (hR : ∀ w', St (keys L) w w' [] → Rd w' A (flat encU v.ks)) (hS : St (keys L) w w L) (hn : bs.length ≤ 35184372088832) :
    Fc Tryz.prog 95 [.pointer (some ⟨bw, 0, none⟩), vaV v A c] w fun u w' => ∃ L', Wr bw (bs ++ vaT v) L' ∧ St (keys L) w w' L' := by
  have hl := valT_len hk
  refine fc_i TB_ok Tryz.func95 rfl (by kernel_rfl) ?_
  have hS : Sf (keys L) w w (L ++ []) [] := ⟨by simpa using hS⟩
  repeat ((conv => whnf); first | (apply q_i; focus (intro w1 hS; (conv => whnf); first | exact ⟨rfl, rfl⟩ | ((first | refine ld_f hS 0 rfl rfl ?_ | refine ldA_f hS 0 rfl rfl ?_); (conv => whnf); exact ⟨rfl, rfl⟩))) | (refine nw_f hS ?_; intro b w1 hS) | refine as_i hS ?_ | refine as_i (hS.subs (List.nil_sublist _) sb9) ?_ | refine as_i (hS.subs (List.Sublist.refl _) sb9) ?_ | refine bar_f hS ?_ | refine ld_f hS 0 rfl rfl ?_ | refine ldA_f hS 0 rfl rfl ?_ | ((first | refine stN_f hS 0 rfl (lb9 rfl) rfl rfl ?_ | refine stM_f hS 0 rfl (lb9 rfl) rfl ?_); (conv => whnf); intro w1 hS) | (refine fc_m (vaPut_c v ho hk A c _ (hR _ hS.nil)) ?_; rintro v w3 ⟨rfl, hS'⟩; replace hS := hS.call0 hS') | (refine dr9 hS ?_; intro w1 hS) | refine br_t (by assumption) ?_ | refine br_f (by assumption) ?_)
  (conv => whnf)
  refine fc_m (raw_c _ _ (vaT v) L hW _ hS.ownF (by omega)) ?_
  rintro u w3 ⟨L3, hW3, hS'⟩
  replace hS := hS.callW hS'
  repeat ((conv => whnf); first | (apply q_i; focus (intro w1 hS; (conv => whnf); first | exact ⟨rfl, rfl⟩ | ((first | refine ld_f hS 0 rfl rfl ?_ | refine ldA_f hS 0 rfl rfl ?_); (conv => whnf); exact ⟨rfl, rfl⟩))) | (refine nw_f hS ?_; intro b w1 hS) | refine as_i hS ?_ | refine as_i (hS.subs (List.nil_sublist _) sb9) ?_ | refine as_i (hS.subs (List.Sublist.refl _) sb9) ?_ | refine bar_f hS ?_ | refine ld_f hS 0 rfl rfl ?_ | refine ldA_f hS 0 rfl rfl ?_ | ((first | refine stN_f hS 0 rfl (lb9 rfl) rfl rfl ?_ | refine stM_f hS 0 rfl (lb9 rfl) rfl ?_); (conv => whnf); intro w1 hS) | (refine dr9 hS ?_; intro w1 hS) | refine br_t (by assumption) ?_ | refine br_f (by assumption) ?_)
  (conv => whnf)
  have h2 := hS.fr (List.Sublist.refl _)
  rw [List.append_nil] at h2
  exact ⟨L3, hW3, h2⟩
theorem allM_c (f : Nat → Int) (A : Option Addr) (l c : Nat) (w : World) :
    Fc Tryz.prog 94 [regV f A l c] w fun v w' => ∃ bx, v = .func (.func 116) #[] #[.pointer (some ⟨bx, 0, none⟩)] ∧
      St [] w w' [(bx, .cells (vecF f ++ [Value.slice A l c]).toArray 40 (0, 0))] := by
  refine fc_i TB_ok Tryz.func94 rfl (by kernel_rfl) ?_
  have hS := Sf.refl w
  repeat ((conv => whnf); first | (apply q_i; focus (intro w1 hS; (conv => whnf); first | exact ⟨rfl, rfl⟩ | ((first | refine ld_f hS 0 rfl rfl ?_ | refine ldA_f hS 0 rfl rfl ?_); (conv => whnf); exact ⟨rfl, rfl⟩))) | (refine nw_f hS ?_; intro b w1 hS) | refine as_i hS ?_ | refine as_i (hS.subs (List.nil_sublist _) sb9) ?_ | refine as_i (hS.subs (List.Sublist.refl _) sb9) ?_ | refine bar_f hS ?_ | refine ld_f hS 0 rfl rfl ?_ | refine ldA_f hS 0 rfl rfl ?_ | ((first | refine stN_f hS 0 rfl (lb9 rfl) rfl rfl ?_ | refine stM_f hS 0 rfl (lb9 rfl) rfl ?_); (conv => whnf); intro w1 hS) | (refine dr9 hS ?_; intro w1 hS) | refine br_t (by assumption) ?_ | refine br_f (by assumption) ?_)
  exact ⟨_, rfl, hS.sub (List.Sublist.refl _)⟩
theorem sbT_len {s : Sv} (h : okV s.v = true) : (sbT s).length ≤ 22 := by
  have := valT_len h
  unfold sbT
  simp only [List.length_append, be_len]
  omega
theorem sbsT_snoc (xs : List Sv) {i : Nat} (h : i < xs.length) : sbsT (xs.take (i + 1)) = sbsT (xs.take i) ++ sbT xs[i] := by
  unfold sbsT
  rw [List.take_succ_eq_append_getElem h, List.flatMap_append]
  simp
theorem sbsT_len : ∀ (xs : List Sv), (∀ s ∈ xs, okV s.v = true) → (sbsT xs).length ≤ 22 * xs.length
  | [], _ => Nat.le_refl _
  | x :: xs, h => by
    have ih := sbsT_len xs (fun y hy => h y (by simp [hy]))
    have h1 := sbT_len (h x (by simp))
    show (sbT x ++ sbsT xs).length ≤ _
    rw [List.length_append, List.length_cons]
    omega
set_option maxHeartbeats 4000000 in
theorem putReg_c (bw : Nat) (bs : List UInt8) (L : LM) (hW : Wr bw bs L) (f : Nat → Int) (hf : ∀ j, j < 8 → 0 ≤ f j ∧ f j ≤ 65535) (A : Option Addr) (c : Nat) (ms : List Sm) (hl : ms.length ≤ 8) (hx : ∀ m ∈ ms, okSv m.s ∧ okV m.s.v = true ∧ m.s.n ≤ 65535)
    (w : World) (hR : ∀ w', St (keys L) w w' [] → RdM w' A ms) (hS : St (keys L) w w L) (hn : bs.length ≤ 17592186044416) :
    Fc Tryz.prog 66 [.pointer (some ⟨bw, 0, none⟩), regV f A ms.length c] w fun u w' => ∃ L', Wr bw (bs ++ (ctxT f ++ be ms.length 1 ++ sbsT (ms.map Sm.s))) L' ∧ St (keys L) w w' L' := by
  have hcl := ctxT_len f
  have hR0 := hR w hS.nil
  refine fc_i TB_ok Tryz.func66 rfl (by kernel_rfl) ?_
  have hS : Sf (keys L) w w (L ++ []) [] := ⟨by simpa using hS⟩
  repeat ((conv => whnf); first | (apply q_i; focus (intro w1 hS; (conv => whnf); first | exact ⟨rfl, rfl⟩ | ((first | refine ld_f hS 0 rfl rfl ?_ | refine ld_f hS 1 rfl rfl ?_ | refine ldA_f hS 0 rfl rfl ?_ | refine ldA_f hS 1 rfl rfl ?_); (conv => whnf); exact ⟨rfl, rfl⟩) | ((refine ldN_f hS 0 rfl (lb9 rfl) ?_); (conv => whnf); exact ⟨rfl, rfl⟩) | ((refine ldN_f hS 1 rfl (lb9 rfl) ?_); (conv => whnf); exact ⟨rfl, rfl⟩))) | (refine nw_f hS ?_; intro b w1 hS) | refine as_i hS ?_ | refine as_i (hS.subs (List.nil_sublist _) sb9) ?_ | refine as_i (hS.subs (List.Sublist.refl _) sb9) ?_ | refine bar_f hS ?_ | refine ld_f hS 0 rfl rfl ?_ | refine ld_f hS 1 rfl rfl ?_ | refine ldA_f hS 0 rfl rfl ?_ | refine ldA_f hS 1 rfl rfl ?_ | ((first | refine stN_f hS 0 rfl (lb9 rfl) rfl rfl ?_ | refine stN_f hS 1 rfl (lb9 rfl) rfl rfl ?_ | refine stM_f hS 0 rfl (lb9 rfl) rfl ?_ | refine stM_f hS 1 rfl (lb9 rfl) rfl ?_); (conv => whnf); intro w1 hS) | refine ldN_f hS 0 rfl (lb9 rfl) ?_ | refine ldN_f hS 1 rfl (lb9 rfl) ?_ | (refine dr9 hS ?_; intro w1 hS) | refine br_t (by assumption) ?_ | refine br_f (by assumption) ?_)
  (conv => whnf)
  refine fc_m (putVec_c _ _ L hW f hf _ hS.ownF (by omega)) ?_
  rintro v w4 ⟨L4, hW4, hS'⟩
  replace hS := hS.callW hS'
  repeat ((conv => whnf); first | (apply q_i; focus (intro w1 hS; (conv => whnf); first | exact ⟨rfl, rfl⟩ | ((first | refine ld_f hS 0 rfl rfl ?_ | refine ld_f hS 1 rfl rfl ?_ | refine ldA_f hS 0 rfl rfl ?_ | refine ldA_f hS 1 rfl rfl ?_); (conv => whnf); exact ⟨rfl, rfl⟩))) | (refine nw_f hS ?_; intro b w1 hS) | refine as_i hS ?_ | refine as_i (hS.subs (List.nil_sublist _) sb9) ?_ | refine as_i (hS.subs (List.Sublist.refl _) sb9) ?_ | refine bar_f hS ?_ | refine ld_f hS 0 rfl rfl ?_ | refine ld_f hS 1 rfl rfl ?_ | refine ldA_f hS 0 rfl rfl ?_ | refine ldA_f hS 1 rfl rfl ?_ | ((first | refine stN_f hS 0 rfl (lb9 rfl) rfl rfl ?_ | refine stN_f hS 1 rfl (lb9 rfl) rfl rfl ?_ | refine stM_f hS 0 rfl (lb9 rfl) rfl ?_ | refine stM_f hS 1 rfl (lb9 rfl) rfl ?_); (conv => whnf); intro w1 hS) | (refine dr9 hS ?_; intro w1 hS) | refine br_t (by assumption) ?_ | refine br_f (by assumption) ?_)
  (conv => whnf)
  refine fc_m (w8u_c _ _ L4 hW4 _ (by omega) (by omega) _ hS.ownF (by rw [List.length_append]; omega)) ?_
  rintro v w5 ⟨L5, hW5, hS'⟩
  replace hS := hS.callW hS'
  generalize hpre : bs ++ ctxT f ++ be (ms.length : Int) 1 = pre at hW5
  have hprl : pre.length ≤ bs.length + 18 := by rw [← hpre]; simp [be_len]; omega
  repeat ((conv => whnf); first | (apply q_i; focus (intro w1 hS; (conv => whnf); first | exact ⟨rfl, rfl⟩ | ((first | refine ld_f hS 0 rfl rfl ?_ | refine ld_f hS 1 rfl rfl ?_ | refine ldA_f hS 0 rfl rfl ?_ | refine ldA_f hS 1 rfl rfl ?_); (conv => whnf); exact ⟨rfl, rfl⟩) | ((refine ldN_f hS 0 rfl (lb9 rfl) ?_); (conv => whnf); exact ⟨rfl, rfl⟩) | ((refine ldN_f hS 1 rfl (lb9 rfl) ?_); (conv => whnf); exact ⟨rfl, rfl⟩))) | (refine nw_f hS ?_; intro b w1 hS) | refine as_i hS ?_ | refine as_i (hS.subs (List.nil_sublist _) sb9) ?_ | refine as_i (hS.subs (List.Sublist.refl _) sb9) ?_ | refine bar_f hS ?_ | refine ld_f hS 0 rfl rfl ?_ | refine ld_f hS 1 rfl rfl ?_ | refine ldA_f hS 0 rfl rfl ?_ | refine ldA_f hS 1 rfl rfl ?_ | ((first | refine stN_f hS 0 rfl (lb9 rfl) rfl rfl ?_ | refine stN_f hS 1 rfl (lb9 rfl) rfl rfl ?_ | refine stM_f hS 0 rfl (lb9 rfl) rfl ?_ | refine stM_f hS 1 rfl (lb9 rfl) rfl ?_); (conv => whnf); intro w1 hS) | refine ldN_f hS 0 rfl (lb9 rfl) ?_ | refine ldN_f hS 1 rfl (lb9 rfl) ?_ | (refine dr9 hS ?_; intro w1 hS) | refine br_t (by assumption) ?_ | refine br_f (by assumption) ?_)
  (conv => whnf)
  refine fc_m (allM_c f A ms.length c _) ?_
  rintro v w6 ⟨bx, rfl, hS'⟩
  replace hS := hS.call' hS'
  replace hS : Sf (keys L) w w6 (L5 ++ []) [_, _, _] := hS
  repeat ((conv => whnf); first | (apply q_i; focus (intro w1 hS; (conv => whnf); first | exact ⟨rfl, rfl⟩ | ((first | refine ld_f hS 0 rfl rfl ?_ | refine ld_f hS 1 rfl rfl ?_ | refine ld_f hS 2 rfl rfl ?_ | refine ldA_f hS 0 rfl rfl ?_ | refine ldA_f hS 1 rfl rfl ?_ | refine ldA_f hS 2 rfl rfl ?_); (conv => whnf); exact ⟨rfl, rfl⟩))) | (refine nw_f hS ?_; intro b w1 hS) | refine as_i hS ?_ | refine as_i (hS.subs (List.nil_sublist _) sb9) ?_ | refine as_i (hS.subs (List.Sublist.refl _) sb9) ?_ | refine bar_f hS ?_ | refine ld_f hS 0 rfl rfl ?_ | refine ld_f hS 1 rfl rfl ?_ | refine ld_f hS 2 rfl rfl ?_ | refine ldA_f hS 0 rfl rfl ?_ | refine ldA_f hS 1 rfl rfl ?_ | refine ldA_f hS 2 rfl rfl ?_ | ((first | refine stN_f hS 0 rfl (lb9 rfl) rfl rfl ?_ | refine stN_f hS 1 rfl (lb9 rfl) rfl rfl ?_ | refine stN_f hS 2 rfl (lb9 rfl) rfl rfl ?_ | refine stM_f hS 0 rfl (lb9 rfl) rfl ?_ | refine stM_f hS 1 rfl (lb9 rfl) rfl ?_ | refine stM_f hS 2 rfl (lb9 rfl) rfl ?_); (conv => whnf); intro w1 hS) | (refine dr9 hS ?_; intro w1 hS) | refine br_t (by assumption) ?_ | refine br_f (by assumption) ?_)
  refine range_i rfl Tryz.func116 rfl (by kernel_rfl) hS ?_
  intro fi2 bd l w7 hS
  refine fc_i TB_ok Tryz.func116 rfl (by kernel_rfl) ?_
  repeat ((conv => whnf); first | (apply q_i; focus (intro w1 hS; (conv => whnf); first | exact ⟨rfl, rfl⟩ | ((first | refine ld_f hS 0 rfl rfl ?_ | refine ld_f hS 1 rfl rfl ?_ | refine ld_f hS 2 rfl rfl ?_ | refine ld_f hS 3 rfl rfl ?_ | refine ld_f hS 4 rfl rfl ?_ | refine ldA_f hS 0 rfl rfl ?_ | refine ldA_f hS 1 rfl rfl ?_ | refine ldA_f hS 2 rfl rfl ?_ | refine ldA_f hS 3 rfl rfl ?_ | refine ldA_f hS 4 rfl rfl ?_); (conv => whnf); exact ⟨rfl, rfl⟩))) | (refine nw_f hS ?_; intro b w1 hS) | refine as_i hS ?_ | refine as_i (hS.subs (List.nil_sublist _) sb9) ?_ | refine as_i (hS.subs (List.Sublist.refl _) sb9) ?_ | refine bar_f hS ?_ | refine ld_f hS 0 rfl rfl ?_ | refine ld_f hS 1 rfl rfl ?_ | refine ld_f hS 2 rfl rfl ?_ | refine ld_f hS 3 rfl rfl ?_ | refine ld_f hS 4 rfl rfl ?_ | refine ldA_f hS 0 rfl rfl ?_ | refine ldA_f hS 1 rfl rfl ?_ | refine ldA_f hS 2 rfl rfl ?_ | refine ldA_f hS 3 rfl rfl ?_ | refine ldA_f hS 4 rfl rfl ?_ | ((first | refine stN_f hS 0 rfl (lb9 rfl) rfl rfl ?_ | refine stN_f hS 1 rfl (lb9 rfl) rfl rfl ?_ | refine stN_f hS 2 rfl (lb9 rfl) rfl rfl ?_ | refine stN_f hS 3 rfl (lb9 rfl) rfl rfl ?_ | refine stN_f hS 4 rfl (lb9 rfl) rfl rfl ?_ | refine stM_f hS 0 rfl (lb9 rfl) rfl ?_ | refine stM_f hS 1 rfl (lb9 rfl) rfl ?_ | refine stM_f hS 2 rfl (lb9 rfl) rfl ?_ | refine stM_f hS 3 rfl (lb9 rfl) rfl ?_ | refine stM_f hS 4 rfl (lb9 rfl) rfl ?_); (conv => whnf); intro w1 hS) | (refine dr9 hS ?_; intro w1 hS) | refine br_t (by assumption) ?_ | refine br_f (by assumption) ?_)
  refine loop_i TB_ok (fun i : Nat => [(8, .int .i64 i)]) (fun i w' => i ≤ ms.length ∧ ∃ L', Wr bw (pre ++ sbsT ((ms.map Sm.s).take i)) L' ∧ Sf (keys L) w w' (L' ++ []) [_, _, _, _, _]) (fun i => ms.length - i) 0 rfl ⟨Nat.zero_le _, L5, by simpa [sbsT] using hW5, hS⟩ ?_
  rintro i us w8 ⟨hi, L6, hW6, hS⟩
  (conv => whnf)
  refine br_i (fun hb => ?_) (fun hb => ?_)
  · have hlt : i < ms.length := by have := of_decide_eq_true hb; omega
    obtain ⟨x0, off, rfl⟩ := hR0.rd.form (flat_ne encM_len (by omega) hlt)
    have hxi := hx ms[i] (List.getElem_mem hlt)
    have hbl := sbsT_len ((ms.map Sm.s).take i) (fun s hs => by
      obtain ⟨m, hm, rfl⟩ := List.mem_map.1 (List.mem_of_mem_take hs)
      exact (hx m hm).2.1)
    rw [List.length_take, List.length_map] at hbl
    have hcl2 := sbT_len hxi.2.1
    have hu : IntKind.u16.wrap ms[i].s.n = ms[i].s.n := by rw [wrap_u16_mod]; have := hxi.1.2.1; have := hxi.2.2; omega
    repeat ((conv => whnf); first | (apply q_i; focus (intro w1 hS; (conv => whnf); first | exact ⟨rfl, rfl⟩ | ((first | refine ld_f hS 0 rfl rfl ?_ | refine ld_f hS 1 rfl rfl ?_ | refine ld_f hS 2 rfl rfl ?_ | refine ld_f hS 3 rfl rfl ?_ | refine ld_f hS 4 rfl rfl ?_ | refine ldA_f hS 0 rfl rfl ?_ | refine ldA_f hS 1 rfl rfl ?_ | refine ldA_f hS 2 rfl rfl ?_ | refine ldA_f hS 3 rfl rfl ?_ | refine ldA_f hS 4 rfl rfl ?_); (conv => whnf); exact ⟨rfl, rfl⟩) | ((refine .mk ⟨by omega, by omega⟩ ?_; refine ix_i rfl ?_); (conv => whnf); exact ⟨rfl, rfl⟩) | ((refine ldN_el encM_len (hR _ hS.nil).rd.at (i := i) hlt rfl rfl ?_); (conv => whnf); exact ⟨rfl, rfl⟩) | ((refine ldN_f hS 0 rfl (lb9 rfl) ?_); (conv => whnf); exact ⟨rfl, rfl⟩))) | (refine nw_f hS ?_; intro b w1 hS) | refine as_i hS ?_ | refine as_i (hS.subs (List.nil_sublist _) sb9) ?_ | refine as_i (hS.subs (List.Sublist.refl _) sb9) ?_ | refine bar_f hS ?_ | refine ld_f hS 0 rfl rfl ?_ | refine ld_f hS 1 rfl rfl ?_ | refine ld_f hS 2 rfl rfl ?_ | refine ld_f hS 3 rfl rfl ?_ | refine ld_f hS 4 rfl rfl ?_ | refine ldA_f hS 0 rfl rfl ?_ | refine ldA_f hS 1 rfl rfl ?_ | refine ldA_f hS 2 rfl rfl ?_ | refine ldA_f hS 3 rfl rfl ?_ | refine ldA_f hS 4 rfl rfl ?_ | ((first | refine stN_f hS 0 rfl (lb9 rfl) rfl rfl ?_ | refine stN_f hS 1 rfl (lb9 rfl) rfl rfl ?_ | refine stN_f hS 2 rfl (lb9 rfl) rfl rfl ?_ | refine stN_f hS 3 rfl (lb9 rfl) rfl rfl ?_ | refine stN_f hS 4 rfl (lb9 rfl) rfl rfl ?_ | refine stM_f hS 0 rfl (lb9 rfl) rfl ?_ | refine stM_f hS 1 rfl (lb9 rfl) rfl ?_ | refine stM_f hS 2 rfl (lb9 rfl) rfl ?_ | refine stM_f hS 3 rfl (lb9 rfl) rfl ?_ | refine stM_f hS 4 rfl (lb9 rfl) rfl ?_); (conv => whnf); intro w1 hS) | (refine .mk ⟨by omega, by omega⟩ ?_; refine ix_i rfl ?_) | refine ldN_el encM_len (hR _ hS.nil).rd.at (i := i) hlt rfl rfl ?_ | refine ldN_f hS 0 rfl (lb9 rfl) ?_ | (refine dr9 hS ?_; intro w1 hS) | refine br_t (by assumption) ?_ | refine br_f (by assumption) ?_)
    refine yield2_i TB_ok (hS.obj 1 rfl) rfl ?_
    repeat ((conv => whnf); first | (apply q_i; focus (intro w1 hS; (conv => whnf); first | exact ⟨rfl, rfl⟩ | ((first | refine ld_f hS 0 rfl rfl ?_ | refine ld_f hS 1 rfl rfl ?_ | refine ld_f hS 2 rfl rfl ?_ | refine ld_f hS 3 rfl rfl ?_ | refine ld_f hS 4 rfl rfl ?_ | refine ld_f hS 5 rfl rfl ?_ | refine ld_f hS 6 rfl rfl ?_ | refine ldA_f hS 0 rfl rfl ?_ | refine ldA_f hS 1 rfl rfl ?_ | refine ldA_f hS 2 rfl rfl ?_ | refine ldA_f hS 3 rfl rfl ?_ | refine ldA_f hS 4 rfl rfl ?_ | refine ldA_f hS 5 rfl rfl ?_ | refine ldA_f hS 6 rfl rfl ?_); (conv => whnf); exact ⟨rfl, rfl⟩))) | (refine nw_f hS ?_; intro b w1 hS) | refine as_i hS ?_ | refine as_i (hS.subs (List.nil_sublist _) sb9) ?_ | refine as_i (hS.subs (List.Sublist.refl _) sb9) ?_ | refine bar_f hS ?_ | refine ld_f hS 0 rfl rfl ?_ | refine ld_f hS 1 rfl rfl ?_ | refine ld_f hS 2 rfl rfl ?_ | refine ld_f hS 3 rfl rfl ?_ | refine ld_f hS 4 rfl rfl ?_ | refine ld_f hS 5 rfl rfl ?_ | refine ld_f hS 6 rfl rfl ?_ | refine ldA_f hS 0 rfl rfl ?_ | refine ldA_f hS 1 rfl rfl ?_ | refine ldA_f hS 2 rfl rfl ?_ | refine ldA_f hS 3 rfl rfl ?_ | refine ldA_f hS 4 rfl rfl ?_ | refine ldA_f hS 5 rfl rfl ?_ | refine ldA_f hS 6 rfl rfl ?_ | ((first | refine stN_f hS 0 rfl (lb9 rfl) rfl rfl ?_ | refine stN_f hS 1 rfl (lb9 rfl) rfl rfl ?_ | refine stN_f hS 2 rfl (lb9 rfl) rfl rfl ?_ | refine stN_f hS 3 rfl (lb9 rfl) rfl rfl ?_ | refine stN_f hS 4 rfl (lb9 rfl) rfl rfl ?_ | refine stN_f hS 5 rfl (lb9 rfl) rfl rfl ?_ | refine stN_f hS 6 rfl (lb9 rfl) rfl rfl ?_ | refine stM_f hS 0 rfl (lb9 rfl) rfl ?_ | refine stM_f hS 1 rfl (lb9 rfl) rfl ?_ | refine stM_f hS 2 rfl (lb9 rfl) rfl ?_ | refine stM_f hS 3 rfl (lb9 rfl) rfl ?_ | refine stM_f hS 4 rfl (lb9 rfl) rfl ?_ | refine stM_f hS 5 rfl (lb9 rfl) rfl ?_ | refine stM_f hS 6 rfl (lb9 rfl) rfl ?_); (conv => whnf); intro w1 hS) | (refine dr9 hS ?_; intro w1 hS) | refine br_t (by assumption) ?_ | refine br_f (by assumption) ?_)
    refine begin_f hS 3 rfl rfl ?_
    (conv => whnf)
    intro w9 hS
    repeat ((conv => whnf); first | (apply q_i; focus (intro w1 hS; (conv => whnf); first | exact ⟨rfl, rfl⟩ | ((first | refine ld_f hS 0 rfl rfl ?_ | refine ld_f hS 1 rfl rfl ?_ | refine ld_f hS 2 rfl rfl ?_ | refine ld_f hS 3 rfl rfl ?_ | refine ld_f hS 4 rfl rfl ?_ | refine ld_f hS 5 rfl rfl ?_ | refine ld_f hS 6 rfl rfl ?_ | refine ld_f hS 7 rfl rfl ?_ | refine ldA_f hS 0 rfl rfl ?_ | refine ldA_f hS 1 rfl rfl ?_ | refine ldA_f hS 2 rfl rfl ?_ | refine ldA_f hS 3 rfl rfl ?_ | refine ldA_f hS 4 rfl rfl ?_ | refine ldA_f hS 5 rfl rfl ?_ | refine ldA_f hS 6 rfl rfl ?_ | refine ldA_f hS 7 rfl rfl ?_); (conv => whnf); exact ⟨rfl, rfl⟩))) | (refine nw_f hS ?_; intro b w1 hS) | refine as_i hS ?_ | refine as_i (hS.subs (List.nil_sublist _) sb9) ?_ | refine as_i (hS.subs (List.Sublist.refl _) sb9) ?_ | refine bar_f hS ?_ | refine ld_f hS 0 rfl rfl ?_ | refine ld_f hS 1 rfl rfl ?_ | refine ld_f hS 2 rfl rfl ?_ | refine ld_f hS 3 rfl rfl ?_ | refine ld_f hS 4 rfl rfl ?_ | refine ld_f hS 5 rfl rfl ?_ | refine ld_f hS 6 rfl rfl ?_ | refine ld_f hS 7 rfl rfl ?_ | refine ldA_f hS 0 rfl rfl ?_ | refine ldA_f hS 1 rfl rfl ?_ | refine ldA_f hS 2 rfl rfl ?_ | refine ldA_f hS 3 rfl rfl ?_ | refine ldA_f hS 4 rfl rfl ?_ | refine ldA_f hS 5 rfl rfl ?_ | refine ldA_f hS 6 rfl rfl ?_ | refine ldA_f hS 7 rfl rfl ?_ | ((first | refine stN_f hS 0 rfl (lb9 rfl) rfl rfl ?_ | refine stN_f hS 1 rfl (lb9 rfl) rfl rfl ?_ | refine stN_f hS 2 rfl (lb9 rfl) rfl rfl ?_ | refine stN_f hS 3 rfl (lb9 rfl) rfl rfl ?_ | refine stN_f hS 4 rfl (lb9 rfl) rfl rfl ?_ | refine stN_f hS 5 rfl (lb9 rfl) rfl rfl ?_ | refine stN_f hS 6 rfl (lb9 rfl) rfl rfl ?_ | refine stN_f hS 7 rfl (lb9 rfl) rfl rfl ?_ | refine stM_f hS 0 rfl (lb9 rfl) rfl ?_ | refine stM_f hS 1 rfl (lb9 rfl) rfl ?_ | refine stM_f hS 2 rfl (lb9 rfl) rfl ?_ | refine stM_f hS 3 rfl (lb9 rfl) rfl ?_ | refine stM_f hS 4 rfl (lb9 rfl) rfl ?_ | refine stM_f hS 5 rfl (lb9 rfl) rfl ?_ | refine stM_f hS 6 rfl (lb9 rfl) rfl ?_ | refine stM_f hS 7 rfl (lb9 rfl) rfl ?_); (conv => whnf); intro w1 hS) | (refine dr9 hS ?_; intro w1 hS) | refine br_t (by assumption) ?_ | refine br_f (by assumption) ?_)
    (conv => whnf)
    refine fc_m (w8_c _ _ L6 hW6 ms[i].s.r hxi.1.1.1 (by have := hxi.1.1; omega) _ hS.ownF (by rw [List.length_append]; omega)) ?_
    rintro v w9 ⟨L7, hW7, hS'⟩
    replace hS := hS.callW hS'
    repeat ((conv => whnf); first | (apply q_i; focus (intro w1 hS; (conv => whnf); first | exact ⟨rfl, rfl⟩ | ((first | refine ld_f hS 0 rfl rfl ?_ | refine ld_f hS 1 rfl rfl ?_ | refine ld_f hS 2 rfl rfl ?_ | refine ld_f hS 3 rfl rfl ?_ | refine ld_f hS 4 rfl rfl ?_ | refine ld_f hS 5 rfl rfl ?_ | refine ld_f hS 6 rfl rfl ?_ | refine ld_f hS 7 rfl rfl ?_ | refine ldA_f hS 0 rfl rfl ?_ | refine ldA_f hS 1 rfl rfl ?_ | refine ldA_f hS 2 rfl rfl ?_ | refine ldA_f hS 3 rfl rfl ?_ | refine ldA_f hS 4 rfl rfl ?_ | refine ldA_f hS 5 rfl rfl ?_ | refine ldA_f hS 6 rfl rfl ?_ | refine ldA_f hS 7 rfl rfl ?_); (conv => whnf); exact ⟨rfl, rfl⟩))) | (refine nw_f hS ?_; intro b w1 hS) | refine as_i hS ?_ | refine as_i (hS.subs (List.nil_sublist _) sb9) ?_ | refine as_i (hS.subs (List.Sublist.refl _) sb9) ?_ | refine bar_f hS ?_ | refine ld_f hS 0 rfl rfl ?_ | refine ld_f hS 1 rfl rfl ?_ | refine ld_f hS 2 rfl rfl ?_ | refine ld_f hS 3 rfl rfl ?_ | refine ld_f hS 4 rfl rfl ?_ | refine ld_f hS 5 rfl rfl ?_ | refine ld_f hS 6 rfl rfl ?_ | refine ld_f hS 7 rfl rfl ?_ | refine ldA_f hS 0 rfl rfl ?_ | refine ldA_f hS 1 rfl rfl ?_ | refine ldA_f hS 2 rfl rfl ?_ | refine ldA_f hS 3 rfl rfl ?_ | refine ldA_f hS 4 rfl rfl ?_ | refine ldA_f hS 5 rfl rfl ?_ | refine ldA_f hS 6 rfl rfl ?_ | refine ldA_f hS 7 rfl rfl ?_ | ((first | refine stN_f hS 0 rfl (lb9 rfl) rfl rfl ?_ | refine stN_f hS 1 rfl (lb9 rfl) rfl rfl ?_ | refine stN_f hS 2 rfl (lb9 rfl) rfl rfl ?_ | refine stN_f hS 3 rfl (lb9 rfl) rfl rfl ?_ | refine stN_f hS 4 rfl (lb9 rfl) rfl rfl ?_ | refine stN_f hS 5 rfl (lb9 rfl) rfl rfl ?_ | refine stN_f hS 6 rfl (lb9 rfl) rfl rfl ?_ | refine stN_f hS 7 rfl (lb9 rfl) rfl rfl ?_ | refine stM_f hS 0 rfl (lb9 rfl) rfl ?_ | refine stM_f hS 1 rfl (lb9 rfl) rfl ?_ | refine stM_f hS 2 rfl (lb9 rfl) rfl ?_ | refine stM_f hS 3 rfl (lb9 rfl) rfl ?_ | refine stM_f hS 4 rfl (lb9 rfl) rfl ?_ | refine stM_f hS 5 rfl (lb9 rfl) rfl ?_ | refine stM_f hS 6 rfl (lb9 rfl) rfl ?_ | refine stM_f hS 7 rfl (lb9 rfl) rfl ?_); (conv => whnf); intro w1 hS) | (refine dr9 hS ?_; intro w1 hS) | refine br_t (by assumption) ?_ | refine br_f (by assumption) ?_)
    (conv => whnf)
    refine fc_m (w16u_c _ _ L7 hW7 ms[i].s.n hxi.1.2.1.1 (by have := hxi.2.2; omega) _ hS.ownF (by simp only [List.length_append, be_len]; omega)) ?_
    rintro v w10 ⟨L8, hW8, hS'⟩
    replace hS := hS.callW hS'
    repeat ((conv => whnf); first | (apply q_i; focus (intro w1 hS; (conv => whnf); first | exact ⟨rfl, rfl⟩ | ((first | refine ld_f hS 0 rfl rfl ?_ | refine ld_f hS 1 rfl rfl ?_ | refine ld_f hS 2 rfl rfl ?_ | refine ld_f hS 3 rfl rfl ?_ | refine ld_f hS 4 rfl rfl ?_ | refine ld_f hS 5 rfl rfl ?_ | refine ld_f hS 6 rfl rfl ?_ | refine ld_f hS 7 rfl rfl ?_ | refine ldA_f hS 0 rfl rfl ?_ | refine ldA_f hS 1 rfl rfl ?_ | refine ldA_f hS 2 rfl rfl ?_ | refine ldA_f hS 3 rfl rfl ?_ | refine ldA_f hS 4 rfl rfl ?_ | refine ldA_f hS 5 rfl rfl ?_ | refine ldA_f hS 6 rfl rfl ?_ | refine ldA_f hS 7 rfl rfl ?_); (conv => whnf); exact ⟨rfl, rfl⟩) | ((refine ldN_f hS 0 rfl (lb9 rfl) ?_); (conv => whnf); exact ⟨rfl, rfl⟩))) | (refine nw_f hS ?_; intro b w1 hS) | refine as_i hS ?_ | refine as_i (hS.subs (List.nil_sublist _) sb9) ?_ | refine as_i (hS.subs (List.Sublist.refl _) sb9) ?_ | refine bar_f hS ?_ | refine ld_f hS 0 rfl rfl ?_ | refine ld_f hS 1 rfl rfl ?_ | refine ld_f hS 2 rfl rfl ?_ | refine ld_f hS 3 rfl rfl ?_ | refine ld_f hS 4 rfl rfl ?_ | refine ld_f hS 5 rfl rfl ?_ | refine ld_f hS 6 rfl rfl ?_ | refine ld_f hS 7 rfl rfl ?_ | refine ldA_f hS 0 rfl rfl ?_ | refine ldA_f hS 1 rfl rfl ?_ | refine ldA_f hS 2 rfl rfl ?_ | refine ldA_f hS 3 rfl rfl ?_ | refine ldA_f hS 4 rfl rfl ?_ | refine ldA_f hS 5 rfl rfl ?_ | refine ldA_f hS 6 rfl rfl ?_ | refine ldA_f hS 7 rfl rfl ?_ | ((first | refine stN_f hS 0 rfl (lb9 rfl) rfl rfl ?_ | refine stN_f hS 1 rfl (lb9 rfl) rfl rfl ?_ | refine stN_f hS 2 rfl (lb9 rfl) rfl rfl ?_ | refine stN_f hS 3 rfl (lb9 rfl) rfl rfl ?_ | refine stN_f hS 4 rfl (lb9 rfl) rfl rfl ?_ | refine stN_f hS 5 rfl (lb9 rfl) rfl rfl ?_ | refine stN_f hS 6 rfl (lb9 rfl) rfl rfl ?_ | refine stN_f hS 7 rfl (lb9 rfl) rfl rfl ?_ | refine stM_f hS 0 rfl (lb9 rfl) rfl ?_ | refine stM_f hS 1 rfl (lb9 rfl) rfl ?_ | refine stM_f hS 2 rfl (lb9 rfl) rfl ?_ | refine stM_f hS 3 rfl (lb9 rfl) rfl ?_ | refine stM_f hS 4 rfl (lb9 rfl) rfl ?_ | refine stM_f hS 5 rfl (lb9 rfl) rfl ?_ | refine stM_f hS 6 rfl (lb9 rfl) rfl ?_ | refine stM_f hS 7 rfl (lb9 rfl) rfl ?_); (conv => whnf); intro w1 hS) | refine ldN_f hS 0 rfl (lb9 rfl) ?_ | (refine dr9 hS ?_; intro w1 hS) | refine br_t (by assumption) ?_ | refine br_f (by assumption) ?_)
    (conv => whnf)
    refine fc_m (putValue_c bw _ L8 hW8 ms[i].s.v hxi.1.2.2 hxi.2.1 ms[i].A ms[i].c _ (fun w' h' => (hR w' (hS.callW h').nil).el _ (List.getElem_mem hlt)) hS.ownF (by simp only [List.length_append, be_len]; omega)) ?_
    rintro v w11 ⟨L9, hW9, hS'⟩
    replace hS := hS.callW hS'
    repeat ((conv => whnf); first | (apply q_i; focus (intro w1 hS; (conv => whnf); first | exact ⟨rfl, rfl⟩ | ((first | refine ld_f hS 0 rfl rfl ?_ | refine ld_f hS 1 rfl rfl ?_ | refine ld_f hS 2 rfl rfl ?_ | refine ld_f hS 3 rfl rfl ?_ | refine ld_f hS 4 rfl rfl ?_ | refine ld_f hS 5 rfl rfl ?_ | refine ld_f hS 6 rfl rfl ?_ | refine ld_f hS 7 rfl rfl ?_ | refine ldA_f hS 0 rfl rfl ?_ | refine ldA_f hS 1 rfl rfl ?_ | refine ldA_f hS 2 rfl rfl ?_ | refine ldA_f hS 3 rfl rfl ?_ | refine ldA_f hS 4 rfl rfl ?_ | refine ldA_f hS 5 rfl rfl ?_ | refine ldA_f hS 6 rfl rfl ?_ | refine ldA_f hS 7 rfl rfl ?_); (conv => whnf); exact ⟨rfl, rfl⟩))) | (refine nw_f hS ?_; intro b w1 hS) | refine as_i hS ?_ | refine as_i (hS.subs (List.nil_sublist _) sb9) ?_ | refine as_i (hS.subs (List.Sublist.refl _) sb9) ?_ | refine bar_f hS ?_ | refine ld_f hS 0 rfl rfl ?_ | refine ld_f hS 1 rfl rfl ?_ | refine ld_f hS 2 rfl rfl ?_ | refine ld_f hS 3 rfl rfl ?_ | refine ld_f hS 4 rfl rfl ?_ | refine ld_f hS 5 rfl rfl ?_ | refine ld_f hS 6 rfl rfl ?_ | refine ld_f hS 7 rfl rfl ?_ | refine ldA_f hS 0 rfl rfl ?_ | refine ldA_f hS 1 rfl rfl ?_ | refine ldA_f hS 2 rfl rfl ?_ | refine ldA_f hS 3 rfl rfl ?_ | refine ldA_f hS 4 rfl rfl ?_ | refine ldA_f hS 5 rfl rfl ?_ | refine ldA_f hS 6 rfl rfl ?_ | refine ldA_f hS 7 rfl rfl ?_ | ((first | refine stN_f hS 0 rfl (lb9 rfl) rfl rfl ?_ | refine stN_f hS 1 rfl (lb9 rfl) rfl rfl ?_ | refine stN_f hS 2 rfl (lb9 rfl) rfl rfl ?_ | refine stN_f hS 3 rfl (lb9 rfl) rfl rfl ?_ | refine stN_f hS 4 rfl (lb9 rfl) rfl rfl ?_ | refine stN_f hS 5 rfl (lb9 rfl) rfl rfl ?_ | refine stN_f hS 6 rfl (lb9 rfl) rfl rfl ?_ | refine stN_f hS 7 rfl (lb9 rfl) rfl rfl ?_ | refine stM_f hS 0 rfl (lb9 rfl) rfl ?_ | refine stM_f hS 1 rfl (lb9 rfl) rfl ?_ | refine stM_f hS 2 rfl (lb9 rfl) rfl ?_ | refine stM_f hS 3 rfl (lb9 rfl) rfl ?_ | refine stM_f hS 4 rfl (lb9 rfl) rfl ?_ | refine stM_f hS 5 rfl (lb9 rfl) rfl ?_ | refine stM_f hS 6 rfl (lb9 rfl) rfl ?_ | refine stM_f hS 7 rfl (lb9 rfl) rfl ?_); (conv => whnf); intro w1 hS) | (refine dr9 hS ?_; intro w1 hS) | refine br_t (by assumption) ?_ | refine br_f (by assumption) ?_)
    (conv => whnf)
    refine end_f hS 3 rfl ?_
    (conv => whnf)
    intro w12 hS
    repeat ((conv => whnf); first | (apply q_i; focus (intro w1 hS; (conv => whnf); first | exact ⟨rfl, rfl⟩ | ((first | refine ld_f hS 0 rfl rfl ?_ | refine ld_f hS 1 rfl rfl ?_ | refine ld_f hS 2 rfl rfl ?_ | refine ld_f hS 3 rfl rfl ?_ | refine ld_f hS 4 rfl rfl ?_ | refine ld_f hS 5 rfl rfl ?_ | refine ld_f hS 6 rfl rfl ?_ | refine ld_f hS 7 rfl rfl ?_ | refine ldA_f hS 0 rfl rfl ?_ | refine ldA_f hS 1 rfl rfl ?_ | refine ldA_f hS 2 rfl rfl ?_ | refine ldA_f hS 3 rfl rfl ?_ | refine ldA_f hS 4 rfl rfl ?_ | refine ldA_f hS 5 rfl rfl ?_ | refine ldA_f hS 6 rfl rfl ?_ | refine ldA_f hS 7 rfl rfl ?_); (conv => whnf); exact ⟨rfl, rfl⟩))) | (refine nw_f hS ?_; intro b w1 hS) | refine as_i hS ?_ | refine as_i (hS.subs (List.nil_sublist _) sb9) ?_ | refine as_i (hS.subs (List.Sublist.refl _) sb9) ?_ | refine bar_f hS ?_ | refine ld_f hS 0 rfl rfl ?_ | refine ld_f hS 1 rfl rfl ?_ | refine ld_f hS 2 rfl rfl ?_ | refine ld_f hS 3 rfl rfl ?_ | refine ld_f hS 4 rfl rfl ?_ | refine ld_f hS 5 rfl rfl ?_ | refine ld_f hS 6 rfl rfl ?_ | refine ld_f hS 7 rfl rfl ?_ | refine ldA_f hS 0 rfl rfl ?_ | refine ldA_f hS 1 rfl rfl ?_ | refine ldA_f hS 2 rfl rfl ?_ | refine ldA_f hS 3 rfl rfl ?_ | refine ldA_f hS 4 rfl rfl ?_ | refine ldA_f hS 5 rfl rfl ?_ | refine ldA_f hS 6 rfl rfl ?_ | refine ldA_f hS 7 rfl rfl ?_ | ((first | refine stN_f hS 0 rfl (lb9 rfl) rfl rfl ?_ | refine stN_f hS 1 rfl (lb9 rfl) rfl rfl ?_ | refine stN_f hS 2 rfl (lb9 rfl) rfl rfl ?_ | refine stN_f hS 3 rfl (lb9 rfl) rfl rfl ?_ | refine stN_f hS 4 rfl (lb9 rfl) rfl rfl ?_ | refine stN_f hS 5 rfl (lb9 rfl) rfl rfl ?_ | refine stN_f hS 6 rfl (lb9 rfl) rfl rfl ?_ | refine stN_f hS 7 rfl (lb9 rfl) rfl rfl ?_ | refine stM_f hS 0 rfl (lb9 rfl) rfl ?_ | refine stM_f hS 1 rfl (lb9 rfl) rfl ?_ | refine stM_f hS 2 rfl (lb9 rfl) rfl ?_ | refine stM_f hS 3 rfl (lb9 rfl) rfl ?_ | refine stM_f hS 4 rfl (lb9 rfl) rfl ?_ | refine stM_f hS 5 rfl (lb9 rfl) rfl ?_ | refine stM_f hS 6 rfl (lb9 rfl) rfl ?_ | refine stM_f hS 7 rfl (lb9 rfl) rfl ?_); (conv => whnf); intro w1 hS) | (refine dr9 hS ?_; intro w1 hS) | refine br_t (by assumption) ?_ | refine br_f (by assumption) ?_)
    refine ⟨rfl, i + 1, ?_, ⟨by omega, L9, ?_, hS.subs (List.Sublist.refl _) (.cons _ (.cons _ (.cons _ (.refl _))))⟩, by omega⟩
    · rw [wi hlt (by omega)]
      rfl
    · rw [sbsT_snoc _ (by simpa using hlt), List.getElem_map]
      unfold sbT
      simpa only [List.append_assoc] using hW9
  · have hge : i = ms.length := by have := of_decide_eq_false hb; omega
    subst hge
    rw [List.take_of_length_le (by simp)] at hW6
    (conv => whnf)
    refine loopEnd_f hS 0 rfl rfl rfl ?_
    (conv => whnf)
    intro w9 hS
    repeat ((conv => whnf); first | (apply q_i; focus (intro w1 hS; (conv => whnf); first | exact ⟨rfl, rfl⟩ | ((first | refine ld_f hS 0 rfl rfl ?_ | refine ld_f hS 1 rfl rfl ?_ | refine ld_f hS 2 rfl rfl ?_ | refine ld_f hS 3 rfl rfl ?_ | refine ld_f hS 4 rfl rfl ?_ | refine ldA_f hS 0 rfl rfl ?_ | refine ldA_f hS 1 rfl rfl ?_ | refine ldA_f hS 2 rfl rfl ?_ | refine ldA_f hS 3 rfl rfl ?_ | refine ldA_f hS 4 rfl rfl ?_); (conv => whnf); exact ⟨rfl, rfl⟩))) | (refine nw_f hS ?_; intro b w1 hS) | refine as_i hS ?_ | refine as_i (hS.subs (List.nil_sublist _) sb9) ?_ | refine as_i (hS.subs (List.Sublist.refl _) sb9) ?_ | refine bar_f hS ?_ | refine ld_f hS 0 rfl rfl ?_ | refine ld_f hS 1 rfl rfl ?_ | refine ld_f hS 2 rfl rfl ?_ | refine ld_f hS 3 rfl rfl ?_ | refine ld_f hS 4 rfl rfl ?_ | refine ldA_f hS 0 rfl rfl ?_ | refine ldA_f hS 1 rfl rfl ?_ | refine ldA_f hS 2 rfl rfl ?_ | refine ldA_f hS 3 rfl rfl ?_ | refine ldA_f hS 4 rfl rfl ?_ | ((first | refine stN_f hS 0 rfl (lb9 rfl) rfl rfl ?_ | refine stN_f hS 1 rfl (lb9 rfl) rfl rfl ?_ | refine stN_f hS 2 rfl (lb9 rfl) rfl rfl ?_ | refine stN_f hS 3 rfl (lb9 rfl) rfl rfl ?_ | refine stN_f hS 4 rfl (lb9 rfl) rfl rfl ?_ | refine stM_f hS 0 rfl (lb9 rfl) rfl ?_ | refine stM_f hS 1 rfl (lb9 rfl) rfl ?_ | refine stM_f hS 2 rfl (lb9 rfl) rfl ?_ | refine stM_f hS 3 rfl (lb9 rfl) rfl ?_ | refine stM_f hS 4 rfl (lb9 rfl) rfl ?_); (conv => whnf); intro w1 hS) | (refine dr9 hS ?_; intro w1 hS) | refine br_t (by assumption) ?_ | refine br_f (by assumption) ?_)
    (conv => whnf)
    refine take_f hS 1 rfl ?_
    (conv => whnf)
    intro w11 hS
    repeat ((conv => whnf); first | (apply q_i; focus (intro w1 hS; (conv => whnf); first | exact ⟨rfl, rfl⟩ | ((first | refine ld_f hS 0 rfl rfl ?_ | refine ld_f hS 1 rfl rfl ?_ | refine ld_f hS 2 rfl rfl ?_ | refine ld_f hS 3 rfl rfl ?_ | refine ld_f hS 4 rfl rfl ?_ | refine ldA_f hS 0 rfl rfl ?_ | refine ldA_f hS 1 rfl rfl ?_ | refine ldA_f hS 2 rfl rfl ?_ | refine ldA_f hS 3 rfl rfl ?_ | refine ldA_f hS 4 rfl rfl ?_); (conv => whnf); exact ⟨rfl, rfl⟩))) | (refine nw_f hS ?_; intro b w1 hS) | refine as_i hS ?_ | refine as_i (hS.subs (List.nil_sublist _) sb9) ?_ | refine as_i (hS.subs (List.Sublist.refl _) sb9) ?_ | refine bar_f hS ?_ | refine ld_f hS 0 rfl rfl ?_ | refine ld_f hS 1 rfl rfl ?_ | refine ld_f hS 2 rfl rfl ?_ | refine ld_f hS 3 rfl rfl ?_ | refine ld_f hS 4 rfl rfl ?_ | refine ldA_f hS 0 rfl rfl ?_ | refine ldA_f hS 1 rfl rfl ?_ | refine ldA_f hS 2 rfl rfl ?_ | refine ldA_f hS 3 rfl rfl ?_ | refine ldA_f hS 4 rfl rfl ?_ | ((first | refine stN_f hS 0 rfl (lb9 rfl) rfl rfl ?_ | refine stN_f hS 1 rfl (lb9 rfl) rfl rfl ?_ | refine stN_f hS 2 rfl (lb9 rfl) rfl rfl ?_ | refine stN_f hS 3 rfl (lb9 rfl) rfl rfl ?_ | refine stN_f hS 4 rfl (lb9 rfl) rfl rfl ?_ | refine stM_f hS 0 rfl (lb9 rfl) rfl ?_ | refine stM_f hS 1 rfl (lb9 rfl) rfl ?_ | refine stM_f hS 2 rfl (lb9 rfl) rfl ?_ | refine stM_f hS 3 rfl (lb9 rfl) rfl ?_ | refine stM_f hS 4 rfl (lb9 rfl) rfl ?_); (conv => whnf); intro w1 hS) | (refine dr9 hS ?_; intro w1 hS) | refine br_t (by assumption) ?_ | refine br_f (by assumption) ?_)
    have h2 := hS.fr (List.Sublist.refl _)
    rw [List.append_nil] at h2
    refine ⟨L6, ?_, h2⟩
    rw [← hpre] at hW6
    simpa only [List.append_assoc] using hW6
end Go.RV

