/- Contracts of functions of chapter 28: Put, Same. Conditions: none. -/
import Derived.Test.YtnhlpmnehdackaaMa7
set_option maxRecDepth 20000
set_option linter.unusedVariables false
set_option linter.unusedSimpArgs false
namespace Go.RV
open Go Go.Proofs Go.RowKit

theorem mtext_c (m : Mx) (ho : okM m) (hm : mayM m = true) (A : Option Addr) (c : Nat) (w : World) (hR : Rd w A (flat encC m.xs)) :
    Fc Try.prog 18 [msgV m A c] w fun v w' => v = .string (strY (bodyT m)) ∧ St [] w w' [] := by
  obtain ⟨h1, h2, h3⟩ := mayM_parts hm
  have hp := namedB_len h1
  obtain ⟨hf, hg, hx⟩ := ho
  cases ha : m.a with
  | true =>
    obtain ⟨a1, a2, a3, a4⟩ := h2 ha
    have e : m = ⟨true, m.p, m.f, m.xs, m.g⟩ := by cases m; simp only at ha; subst ha; rfl
    rw [e]
    exact text1_c m.p m.f m.xs m.g (fun j hj => ⟨(hg j hj).1, mayVB_le a1 j hj⟩) hp A c w
  | false =>
    obtain ⟨a1, a2, a3, a4, a5⟩ := h3 ha
    have e : m = ⟨false, m.p, m.f, m.xs, m.g⟩ := by cases m; simp only at ha; subst ha; rfl
    rw [e]
    exact text2_c m.p m.f m.xs m.g (fun j hj => ⟨(hf j hj).1, mayVB_le a1 j hj⟩) hp a2 (fun x h => ⟨(hx x h).1, (hx x h).2.1, (hx x h).2.2.1, (hasB_dot (a3 x h).1).2.2, (a3 x h).2⟩) A c w hR
theorem bodyT_len {m : Mx} (hm : mayM m = true) : (bodyT m).length ≤ 2152 := by
  obtain ⟨h1, h2, h3⟩ := mayM_parts hm
  have hp := namedB_len h1
  unfold bodyT
  have hf := ctxT_len m.f
  have hg := ctxT_len m.g
  cases ha : m.a with
  | true =>
    simp only [if_true, List.length_append, be_len]
    omega
  | false =>
    obtain ⟨a1, a2, a3, a4, a5⟩ := h3 ha
    have := sibsT_len m.xs (fun x hx => (a3 x hx).2)
    simp only [Bool.false_eq_true, if_false, List.length_append, be_len]
    omega
theorem mputM_c (m : Mx) (ho : okM m) (hp : m.p.length ≤ 1073741824) (hl : m.xs.length ≤ 1073741824) (hv : ∀ x ∈ m.xs, x.v.length ≤ 1073741824) (A : Option Addr) (c : Nat) (w : World) (hR : Rd w A (flat encC m.xs)) :
    Fc Try.prog 8 [msgV m A c] w fun v w' => v = .tuple #[.string (strY (putM m).1), .int .i64 (putM m).2] ∧ St [] w w' [] := by
  refine fc_i TB_ok Try.func8 rfl (by kernel_rfl) ?_
  have hS := Sf.refl w
  have hc := fun w => mcheck_c m ho hp hl hv A c w
  unfold putM
  cases hk : mayM m with
  | true =>
    rw [hk] at hc
    have hb := bodyT_len hk
    repeat ((conv => whnf); first | (apply q_i; focus (intro w1 hS; (conv => whnf); first | exact ⟨rfl, rfl⟩ | ((refine ld_f hS 0 rfl rfl ?_); (conv => whnf); exact ⟨rfl, rfl⟩) | ((refine ldA_f hS 0 rfl rfl ?_); (conv => whnf); exact ⟨rfl, rfl⟩) | ((refine fc_m (hc _ (hR.below hS.nil)) ?_; rintro v w3 ⟨rfl, hS'⟩; replace hS := hS.call0 hS'); (conv => whnf); exact ⟨rfl, rfl⟩) | ((refine fc_m (mtext_c m ho hk A c _ (hR.below hS.nil)) ?_; rintro v w3 ⟨rfl, hS'⟩; replace hS := hS.call0 hS'); (conv => whnf); exact ⟨rfl, rfl⟩) | ((refine fc_m (summed_c (bodyT m) (by omega) _) ?_; rintro v w3 ⟨rfl, hS'⟩; replace hS := hS.call0 hS'); (conv => whnf); exact ⟨rfl, rfl⟩))) | (refine nw_f hS ?_; intro b w1 hS) | (refine as_i hS ?_) | (refine as_i (hS.subs (List.nil_sublist _) (by repeat (first | exact List.Sublist.refl _ | apply List.Sublist.cons_cons | apply List.Sublist.cons))) ?_) | (refine as_i (hS.subs (List.Sublist.refl _) (by repeat (first | exact List.Sublist.refl _ | apply List.Sublist.cons_cons | apply List.Sublist.cons))) ?_) | (refine bar_f hS ?_) | (refine ld_f hS 0 rfl rfl ?_) | (refine ldA_f hS 0 rfl rfl ?_) | (refine stN_f hS 0 rfl (Nat.le_of_ble_eq_true rfl) rfl rfl ?_; (conv => whnf); intro w1 hS) | (refine stM_f hS 0 rfl (Nat.le_of_ble_eq_true rfl) rfl ?_; (conv => whnf); intro w1 hS) | (refine fc_m (hc _ (hR.below hS.nil)) ?_; rintro v w3 ⟨rfl, hS'⟩; replace hS := hS.call0 hS') | (refine fc_m (mtext_c m ho hk A c _ (hR.below hS.nil)) ?_; rintro v w3 ⟨rfl, hS'⟩; replace hS := hS.call0 hS') | (refine fc_m (summed_c (bodyT m) (by omega) _) ?_; rintro v w3 ⟨rfl, hS'⟩; replace hS := hS.call0 hS') | (refine drawf TB_ok rfl (by kernel_rfl) (by kernel_rfl) hS (List.Sublist.refl _) (List.Sublist.refl _) ?_; intro w1 hS) | (refine br_t (by assumption) ?_) | (refine br_f (by assumption) ?_))
    exact ⟨rfl, hS.nil⟩
  | false =>
    rw [hk] at hc
    repeat ((conv => whnf); first | (apply q_i; focus (intro w1 hS; (conv => whnf); first | exact ⟨rfl, rfl⟩ | ((refine ld_f hS 0 rfl rfl ?_); (conv => whnf); exact ⟨rfl, rfl⟩) | ((refine ldA_f hS 0 rfl rfl ?_); (conv => whnf); exact ⟨rfl, rfl⟩) | ((refine fc_m (hc _ (hR.below hS.nil)) ?_; rintro v w3 ⟨rfl, hS'⟩; replace hS := hS.call0 hS'); (conv => whnf); exact ⟨rfl, rfl⟩))) | (refine nw_f hS ?_; intro b w1 hS) | (refine as_i hS ?_) | (refine as_i (hS.subs (List.nil_sublist _) (by repeat (first | exact List.Sublist.refl _ | apply List.Sublist.cons_cons | apply List.Sublist.cons))) ?_) | (refine as_i (hS.subs (List.Sublist.refl _) (by repeat (first | exact List.Sublist.refl _ | apply List.Sublist.cons_cons | apply List.Sublist.cons))) ?_) | (refine bar_f hS ?_) | (refine ld_f hS 0 rfl rfl ?_) | (refine ldA_f hS 0 rfl rfl ?_) | (refine stN_f hS 0 rfl (Nat.le_of_ble_eq_true rfl) rfl rfl ?_; (conv => whnf); intro w1 hS) | (refine stM_f hS 0 rfl (Nat.le_of_ble_eq_true rfl) rfl ?_; (conv => whnf); intro w1 hS) | (refine fc_m (hc _ (hR.below hS.nil)) ?_; rintro v w3 ⟨rfl, hS'⟩; replace hS := hS.call0 hS') | (refine drawf TB_ok rfl (by kernel_rfl) (by kernel_rfl) hS (List.Sublist.refl _) (List.Sublist.refl _) ?_; intro w1 hS) | (refine br_t (by assumption) ?_) | (refine br_f (by assumption) ?_))
    exact ⟨rfl, hS.nil⟩
section
variable {P : Program} {d : Nat} {xs ys us vs : Array Value} {f : Field} {fs : List Field} {r s : Bool} {w : World}
theorem part_agg8 {t sz o : Nat} (hu : (∃ fs, P.underlying t = some (.struct fs)) ∨ ∃ n e, P.underlying t = some (.array n e)) (hz : (sizeOf t).run P w = .ok sz w) : (part t xs o).run P w = .ok (.agg (xs.extract o (o + sz))) w := by
  unfold part
  rw [Sem.run_bind]
  have ha : (isAgg t).run P w = .ok true w := by
    unfold isAgg
    rw [Sem.run_bind]
    rcases hu with ⟨fs, hu⟩ | ⟨n, e, hu⟩ <;> rw [run_underlying hu] <;> rfl
  rw [ha]
  simp only [Result.andThen_ok, if_true, Sem.run_bind, hz]
  rfl
theorem eqF_consS8 (hn : (f.name == "_") = false) (ha : (part f.type xs f.offset).run P w = .ok (.agg us) w) (hb : (part f.type ys f.offset).run P w = .ok (.agg vs) w) (he : (Op.equalIn d f.type (.agg us) (.agg vs)).run P w = .ok r w) (hr : (Op.eqFields d xs ys fs).run P w = .ok s w) : (Op.eqFields d xs ys (f :: fs)).run P w = .ok (r && s) w := by
  have hn' : f.name ≠ "_" := by simpa using hn
  rw [Op.eqFields]
  simp only [if_pos hn', Sem.run_bind, ha, hb, he, Result.andThen_ok]
  cases r
  · simp
  · simpa using hr
end
theorem toList_strY8 (a b : List UInt8) : ((strY a).toList == (strY b).toList) = decide (a = b) := by
  rw [ByteArray.toList_eq, ByteArray.toList_eq]
  show ((⟨a.toArray⟩ : ByteArray).data.toList == (⟨b.toArray⟩ : ByteArray).data.toList) = _
  rw [Bool.eq_iff_iff]
  simp
theorem eqDotIn8 (r n r2 n2 : Int) (w : World) (d : Nat) : (Op.equalIn (d + 2) 47 (.agg #[.int .u8 r, .int .u32 n]) (.agg #[.int .u8 r2, .int .u32 n2])).run Try.prog w = .ok (r == r2 && (n == n2 && true)) w := by
  rw [run_equalIn_struct w (d + 1) 47 _ _ fieldsDot (by kernel_rfl)]
  simp only [Program.fieldsOf, Try.underlying47]
  exact eqF_cons (d := d) rfl rfl rfl (.int Try.underlying5) (eqF_cons rfl rfl rfl (.int Try.underlying22) eqF_nil)
theorem fieldsCon : Try.prog.underlying 45 = some (.struct (Try.prog.fieldsOf 45)) := by
  unfold Program.fieldsOf
  rw [Try.underlying45]
theorem eqConIn8 (x : Bool) (s : List UInt8) (y : Bool) (t : List UInt8) (w : World) (d : Nat) : (Op.equalIn (d + 2) 45 (.agg #[.bool x, .string (strY s)]) (.agg #[.bool y, .string (strY t)])).run Try.prog w = .ok (x == y && (decide (s = t) && true)) w := by
  rw [run_equalIn_struct w (d + 1) 45 _ _ fieldsCon (by kernel_rfl), ← toList_strY8]
  simp only [Program.fieldsOf, Try.underlying45]
  exact eqF_cons (d := d) rfl rfl rfl (.bool Try.underlying4) (eqF_cons rfl rfl rfl (.string Try.underlying9) eqF_nil)
theorem eqSibF8 (x y : Sc) (w : World) : (Op.eqFields 9999 (encC x).toArray (encC y).toArray (Try.prog.fieldsOf 49).toList).run Try.prog w = .ok (eqSc x y) w := by
  simp only [Program.fieldsOf, Try.underlying49]
  refine eqF_consS8 (us := #[.int .u8 x.r, .int .u32 x.n]) (vs := #[.int .u8 y.r, .int .u32 y.n]) rfl ?_ ?_ (eqDotIn8 _ _ _ _ w 9997) ?_
  · exact part_agg8 (.inl ⟨_, Try.underlying47⟩) (Try.sizeOf47 w)
  · exact part_agg8 (.inl ⟨_, Try.underlying47⟩) (Try.sizeOf47 w)
  · refine eqF_consS8 (us := #[.bool x.d, .string (strY x.v)]) (vs := #[.bool y.d, .string (strY y.v)]) rfl ?_ ?_ (eqConIn8 _ _ _ _ w 9997) (eqF_nil (d := 9998))
    · exact part_agg8 (.inl ⟨_, Try.underlying45⟩) (Try.sizeOf45 w)
    · exact part_agg8 (.inl ⟨_, Try.underlying45⟩) (Try.sizeOf45 w)
theorem fieldsSib8 : Try.prog.underlying 49 = some (.struct (Try.prog.fieldsOf 49)) := by
  unfold Program.fieldsOf
  rw [Try.underlying49]
theorem neSib8 (x y : Sc) {ox oy : Operand} {w : World} {K : Value → World → Prop} (k : K (.bool (!eqSc x y)) w) :
    SemN Try.prog (do eqGuard .neq 49 ox oy (.agg (encC x).toArray) (.agg (encC y).toArray); binOp .neq 49 (.agg (encC x).toArray) (.agg (encC y).toArray)) w K :=
  neS_i (by kernel_rfl) fieldsSib8 (by kernel_rfl) (eqSibF8 x y w) k
theorem eqSc_iff (x y : Sc) : eqSc x y = true ↔ x = y := by
  unfold eqSc
  cases x; cases y
  simp [and_assoc]
theorem eqCs_iff : ∀ xs ys : List Sc, eqCs xs ys = true ↔ xs = ys
  | [], [] => by simp [eqCs]
  | [], y :: ys => by simp [eqCs]
  | x :: xs, [] => by simp [eqCs]
  | x :: xs, y :: ys => by
    have ih := eqCs_iff xs ys
    rw [eqCs, Bool.and_eq_true, ih, eqSc_iff]
    simp
theorem sequalC_c (A : Option Addr) (c : Nat) (xs : List Sc) (B : Option Addr) (d : Nat) (ys : List Sc) (w : World) (hR : Rd w A (flat encC xs)) (hl : xs.length ≤ 4611686018427387904) (hR2 : Rd w B (flat encC ys)) :
    Fc Try.prog 26 [.slice A xs.length c, .slice B ys.length d] w fun v w' => v = .bool (eqCs xs ys) ∧ St [] w w' [] := by
  refine fc_i TB_ok Try.func26 rfl (by kernel_rfl) ?_
  have hS := Sf.refl w
  have heq := eqCs_iff xs ys
  have hno : ¬ xs = ys → eqCs xs ys = false := fun h => by
    cases hq : eqCs xs ys with
    | false => rfl
    | true => exact absurd (heq.1 hq) h
  by_cases hll : xs.length = ys.length
  · have g0 : ((xs.length : Int) != (ys.length : Int)) = false := by simp [hll]
    repeat ((conv => whnf); first | (apply q_i; focus (intro w1 hS; (conv => whnf); first | exact ⟨rfl, rfl⟩)) | (refine nw_f hS ?_; intro b w1 hS) | (refine as_i hS ?_) | (refine as_i (hS.subs (List.nil_sublist _) (by repeat (first | exact List.Sublist.refl _ | apply List.Sublist.cons_cons | apply List.Sublist.cons))) ?_) | (refine as_i (hS.subs (List.Sublist.refl _) (by repeat (first | exact List.Sublist.refl _ | apply List.Sublist.cons_cons | apply List.Sublist.cons))) ?_) | (refine bar_f hS ?_) | (refine drawf TB_ok rfl (by kernel_rfl) (by kernel_rfl) hS (List.Sublist.refl _) (List.Sublist.refl _) ?_; intro w1 hS) | (refine br_t (by assumption) ?_) | (refine br_f (by assumption) ?_))
    refine loop_i TB_ok (fun i : Nat => [(13, .int .i64 i)]) (fun i w' => i ≤ xs.length ∧ xs.take i = ys.take i ∧ Sf [] w w' [] []) (fun i => xs.length - i) 0 rfl ⟨Nat.zero_le _, by simp, hS⟩ ?_
    rintro i us w2 ⟨hi, hsm, hS⟩
    (conv => whnf)
    refine br_i (fun hb => ?_) (fun hb => ?_)
    · have hlt : i < xs.length := by have := of_decide_eq_true hb; omega
      have hlt2 : i < ys.length := by omega
      obtain ⟨b, off, rfl⟩ := hR.form (flat_ne encC_len (by omega) hlt)
      obtain ⟨b2, off2, rfl⟩ := hR2.form (flat_ne encC_len (by omega) hlt2)
      repeat ((conv => whnf); first | (apply q_i; focus (intro w1 hS; (conv => whnf); first | exact ⟨rfl, rfl⟩ | ((refine .mk ⟨by omega, by omega⟩ ?_; refine ix_i rfl ?_); (conv => whnf); exact ⟨rfl, rfl⟩) | ((refine ldN_el encC_len (hR.below hS.nil).at (i := i) hlt rfl rfl ?_); (conv => whnf); exact ⟨rfl, rfl⟩) | ((refine ldN_el encC_len (hR2.below hS.nil).at (i := i) hlt2 rfl rfl ?_); (conv => whnf); exact ⟨rfl, rfl⟩) | ((refine neSib8 xs[i] ys[i] ?_); (conv => whnf); exact ⟨rfl, rfl⟩))) | (refine nw_f hS ?_; intro b w1 hS) | (refine as_i hS ?_) | (refine as_i (hS.subs (List.nil_sublist _) (by repeat (first | exact List.Sublist.refl _ | apply List.Sublist.cons_cons | apply List.Sublist.cons))) ?_) | (refine as_i (hS.subs (List.Sublist.refl _) (by repeat (first | exact List.Sublist.refl _ | apply List.Sublist.cons_cons | apply List.Sublist.cons))) ?_) | (refine bar_f hS ?_) | (refine .mk ⟨by omega, by omega⟩ ?_; refine ix_i rfl ?_) | (refine ldN_el encC_len (hR.below hS.nil).at (i := i) hlt rfl rfl ?_) | (refine ldN_el encC_len (hR2.below hS.nil).at (i := i) hlt2 rfl rfl ?_) | (refine neSib8 xs[i] ys[i] ?_) | (refine drawf TB_ok rfl (by kernel_rfl) (by kernel_rfl) hS (List.Sublist.refl _) (List.Sublist.refl _) ?_; intro w1 hS) | (refine br_t (by assumption) ?_) | (refine br_f (by assumption) ?_))
      (conv => whnf)
      refine br_i (fun h1 => ?_) (fun h1 => ?_)
      · have hne : ¬ xs = ys := by
          rintro rfl
          rw [(eqSc_iff _ _).2 rfl] at h1
          cases h1
        rw [hno hne]
        repeat ((conv => whnf); first | (apply q_i; focus (intro w1 hS; (conv => whnf); first | exact ⟨rfl, rfl⟩)) | (refine nw_f hS ?_; intro b w1 hS) | (refine as_i hS ?_) | (refine as_i (hS.subs (List.nil_sublist _) (by repeat (first | exact List.Sublist.refl _ | apply List.Sublist.cons_cons | apply List.Sublist.cons))) ?_) | (refine as_i (hS.subs (List.Sublist.refl _) (by repeat (first | exact List.Sublist.refl _ | apply List.Sublist.cons_cons | apply List.Sublist.cons))) ?_) | (refine bar_f hS ?_) | (refine drawf TB_ok rfl (by kernel_rfl) (by kernel_rfl) hS (List.Sublist.refl _) (List.Sublist.refl _) ?_; intro w1 hS) | (refine br_t (by assumption) ?_) | (refine br_f (by assumption) ?_))
        exact ⟨rfl, hS.nil⟩
      · have he : xs[i] = ys[i] := (eqSc_iff _ _).1 (by simpa using h1)
        repeat ((conv => whnf); first | (apply q_i; focus (intro w1 hS; (conv => whnf); first | exact ⟨rfl, rfl⟩)) | (refine nw_f hS ?_; intro b w1 hS) | (refine as_i hS ?_) | (refine as_i (hS.subs (List.nil_sublist _) (by repeat (first | exact List.Sublist.refl _ | apply List.Sublist.cons_cons | apply List.Sublist.cons))) ?_) | (refine as_i (hS.subs (List.Sublist.refl _) (by repeat (first | exact List.Sublist.refl _ | apply List.Sublist.cons_cons | apply List.Sublist.cons))) ?_) | (refine bar_f hS ?_) | (refine drawf TB_ok rfl (by kernel_rfl) (by kernel_rfl) hS (List.Sublist.refl _) (List.Sublist.refl _) ?_; intro w1 hS) | (refine br_t (by assumption) ?_) | (refine br_f (by assumption) ?_))
        refine ⟨rfl, i + 1, ?_, ⟨by omega, ?_, hS⟩, by omega⟩
        · rw [wi hlt (by omega)]
          rfl
        · rw [List.take_succ_eq_append_getElem hlt, List.take_succ_eq_append_getElem hlt2, hsm, he]
    · have hge : i = xs.length := by have := of_decide_eq_false hb; omega
      have he : xs = ys := by
        rw [hge, List.take_length, hll, List.take_length] at hsm
        exact hsm
      rw [heq.2 he]
      repeat ((conv => whnf); first | (apply q_i; focus (intro w1 hS; (conv => whnf); first | exact ⟨rfl, rfl⟩)) | (refine nw_f hS ?_; intro b w1 hS) | (refine as_i hS ?_) | (refine as_i (hS.subs (List.nil_sublist _) (by repeat (first | exact List.Sublist.refl _ | apply List.Sublist.cons_cons | apply List.Sublist.cons))) ?_) | (refine as_i (hS.subs (List.Sublist.refl _) (by repeat (first | exact List.Sublist.refl _ | apply List.Sublist.cons_cons | apply List.Sublist.cons))) ?_) | (refine bar_f hS ?_) | (refine drawf TB_ok rfl (by kernel_rfl) (by kernel_rfl) hS (List.Sublist.refl _) (List.Sublist.refl _) ?_; intro w1 hS) | (refine br_t (by assumption) ?_) | (refine br_f (by assumption) ?_))
      exact ⟨rfl, hS.nil⟩
  · have g0 : ((xs.length : Int) != (ys.length : Int)) = true := by simp; omega
    rw [hno (fun h => hll (by rw [h]))]
    repeat ((conv => whnf); first | (apply q_i; focus (intro w1 hS; (conv => whnf); first | exact ⟨rfl, rfl⟩)) | (refine nw_f hS ?_; intro b w1 hS) | (refine as_i hS ?_) | (refine as_i (hS.subs (List.nil_sublist _) (by repeat (first | exact List.Sublist.refl _ | apply List.Sublist.cons_cons | apply List.Sublist.cons))) ?_) | (refine as_i (hS.subs (List.Sublist.refl _) (by repeat (first | exact List.Sublist.refl _ | apply List.Sublist.cons_cons | apply List.Sublist.cons))) ?_) | (refine bar_f hS ?_) | (refine drawf TB_ok rfl (by kernel_rfl) (by kernel_rfl) hS (List.Sublist.refl _) (List.Sublist.refl _) ?_; intro w1 hS) | (refine br_t (by assumption) ?_) | (refine br_f (by assumption) ?_))
    exact ⟨rfl, hS.nil⟩
set_option maxHeartbeats 4000000 in
theorem msame0_c (a : Bool) (p : List UInt8) (f : Nat → Int) (xs : List Sc) (g : Nat → Int) (a2 : Bool) (p2 : List UInt8) (f2 : Nat → Int) (ys : List Sc) (g2 : Nat → Int) (hl : xs.length ≤ 4611686018427387904) (A : Option Addr) (c : Nat) (B : Option Addr) (d : Nat) (w : World) (hR : Rd w A (flat encC xs)) (hR2 : Rd w B (flat encC ys)) :
    Fc Try.prog 10 [msgC a p f A xs.length c g, msgC a2 p2 f2 B ys.length d g2] w fun v w' => v = .bool (sameM ⟨a, p, f, xs, g⟩ ⟨a2, p2, f2, ys, g2⟩) ∧ St [] w w' [] := by
  refine fc_i TB_ok Try.func10 rfl (by kernel_rfl) ?_
  have hS := Sf.refl w
  unfold sameM
  simp only
  rw [← streq_strY p p2]
  repeat' ((conv => whnf); first | (refine And.intro ?_ ?_) | (apply q_i; focus (intro w1 hS; (conv => whnf); first | exact ⟨rfl, rfl⟩ | ((refine ld_f hS 0 rfl rfl ?_); (conv => whnf); exact ⟨rfl, rfl⟩) | ((refine ld_f hS 1 rfl rfl ?_); (conv => whnf); exact ⟨rfl, rfl⟩) | ((refine ldA_f hS 0 rfl rfl ?_); (conv => whnf); exact ⟨rfl, rfl⟩) | ((refine ldA_f hS 1 rfl rfl ?_); (conv => whnf); exact ⟨rfl, rfl⟩) | ((refine ldN_f hS 0 rfl (Nat.le_of_ble_eq_true rfl) ?_); (conv => whnf); exact ⟨rfl, rfl⟩) | ((refine ldN_f hS 1 rfl (Nat.le_of_ble_eq_true rfl) ?_); (conv => whnf); exact ⟨rfl, rfl⟩) | ((refine fc_m (sequalC_c A c xs B d ys _ (hR.below hS.nil) hl (hR2.below hS.nil)) ?_; rintro v w3 ⟨rfl, hS'⟩; replace hS := hS.call0 hS'); (conv => whnf); exact ⟨rfl, rfl⟩) | ((refine eqVec g g2 ?_); (conv => whnf); exact ⟨rfl, rfl⟩) | ((refine eqVec f f2 ?_); (conv => whnf); exact ⟨rfl, rfl⟩) | ((refine br_i (fun _ => ?_) (fun _ => ?_)); (conv => whnf); exact ⟨rfl, rfl⟩))) | (refine nw_f hS ?_; intro b w1 hS) | (refine as_i hS ?_) | (refine as_i (hS.subs (List.nil_sublist _) (by repeat (first | exact List.Sublist.refl _ | apply List.Sublist.cons_cons | apply List.Sublist.cons))) ?_) | (refine as_i (hS.subs (List.Sublist.refl _) (by repeat (first | exact List.Sublist.refl _ | apply List.Sublist.cons_cons | apply List.Sublist.cons))) ?_) | (refine bar_f hS ?_) | (refine ld_f hS 0 rfl rfl ?_) | (refine ld_f hS 1 rfl rfl ?_) | (refine ldA_f hS 0 rfl rfl ?_) | (refine ldA_f hS 1 rfl rfl ?_) | (refine stN_f hS 0 rfl (Nat.le_of_ble_eq_true rfl) rfl rfl ?_; (conv => whnf); intro w1 hS) | (refine stN_f hS 1 rfl (Nat.le_of_ble_eq_true rfl) rfl rfl ?_; (conv => whnf); intro w1 hS) | (refine stM_f hS 0 rfl (Nat.le_of_ble_eq_true rfl) rfl ?_; (conv => whnf); intro w1 hS) | (refine stM_f hS 1 rfl (Nat.le_of_ble_eq_true rfl) rfl ?_; (conv => whnf); intro w1 hS) | (refine ldN_f hS 0 rfl (Nat.le_of_ble_eq_true rfl) ?_) | (refine ldN_f hS 1 rfl (Nat.le_of_ble_eq_true rfl) ?_) | (refine fc_m (sequalC_c A c xs B d ys _ (hR.below hS.nil) hl (hR2.below hS.nil)) ?_; rintro v w3 ⟨rfl, hS'⟩; replace hS := hS.call0 hS') | (refine eqVec g g2 ?_) | (refine eqVec f f2 ?_) | (refine br_i (fun _ => ?_) (fun _ => ?_)) | (refine drawf TB_ok rfl (by kernel_rfl) (by kernel_rfl) hS (List.Sublist.refl _) (List.Sublist.refl _) ?_; intro w1 hS) | (refine br_t (by assumption) ?_) | (refine br_f (by assumption) ?_))
  all_goals first
    | exact hS.nil
    | (refine congrArg Value.bool ?_; simp only [*, Bool.not_true, Bool.not_false, Bool.and_true, Bool.true_and, Bool.false_and, Bool.and_false, if_true, if_false, Bool.false_eq_true])
theorem msame_c (m k : Mx) (hl : m.xs.length ≤ 4611686018427387904) (A : Option Addr) (c : Nat) (B : Option Addr) (d : Nat) (w : World) (hR : Rd w A (flat encC m.xs)) (hR2 : Rd w B (flat encC k.xs)) :
    Fc Try.prog 10 [msgV m A c, msgV k B d] w fun v w' => v = .bool (sameM m k) ∧ St [] w w' [] :=
  msame0_c m.a m.p m.f m.xs m.g k.a k.p k.f k.xs k.g hl A c B d w hR hR2
end Go.RV
