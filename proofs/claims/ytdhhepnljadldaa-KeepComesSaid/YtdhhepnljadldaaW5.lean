/- Contracts of functions of chapter 9: the statements' own helpers. Conditions: none. -/
import Derived.Test.YtdhhepnljadldaaW4
set_option maxRecDepth 20000
set_option linter.unusedVariables false
set_option linter.unusedSimpArgs false
namespace Go.RV
open Go Go.Proofs

def encU (n : Int) : List Value := [.int .u32 n]
theorem encU_len (n : Int) : (encU n).length = 1 := rfl
/-- versions of these ticks, with IDs from k+1 on -/
def stampsFrom (k : Nat) : List Int → List Stp
  | [] => []
  | t :: ts => ⟨IntKind.u32.wrap ((k + 1 : Nat) : Int), t⟩ :: stampsFrom (k+1) ts
theorem stampsFrom_len : ∀ (ts : List Int) (k : Nat), (stampsFrom k ts).length = ts.length
  | [], _ => rfl
  | t :: ts, k => by simp [stampsFrom, stampsFrom_len ts]
theorem stampsFrom_take : ∀ (ts : List Int) (k i : Nat) (h : i < ts.length), stampsFrom k (ts.take (i+1)) = stampsFrom k (ts.take i) ++ [⟨IntKind.u32.wrap ((k + i + 1 : Nat) : Int), ts[i]⟩]
  | [], _, i, h => by simp at h
  | t :: ts, k, 0, h => by simp [stampsFrom]
  | t :: ts, k, i+1, h => by
    have := stampsFrom_take ts (k+1) i (by simpa using h)
    simp only [List.take_succ_cons, stampsFrom, List.cons_append, List.cons.injEq, true_and, List.getElem_cons_succ]
    rw [this]
    congr 4
    omega

theorem ofl_c (A : Option Addr) (c : Nat) (ts : List Int) (w : World) (hR : Rd w A (flat encU ts)) (hn : ts.length ≤ 17592186044416) :
    Fc Try.prog 26 [.slice A ts.length c] w fun v w' => ∃ L, Sl 24 2 v (stampsFrom 0 ts).length (flat encS (stampsFrom 0 ts)) L ∧ St [] w w' L := by
  refine fc_i TB_ok Try.func26 rfl (by kernel_rfl) ?_
  have hS := Sf.refl w
  repeat ((conv => whnf); first | (refine nw_f hS ?_; intro b w1 hS) | (refine ld_f hS 0 rfl rfl ?_) | (refine ldA_f hS 0 rfl rfl ?_) | (refine stN_f hS 0 rfl (Nat.le_of_ble_eq_true rfl) rfl rfl ?_; (conv => whnf); intro w1 hS) | (refine stM_f hS 0 rfl (Nat.le_of_ble_eq_true rfl) rfl ?_; (conv => whnf); intro w1 hS))
  refine loop_i TB_ok (fun s : Nat × Value => [(4, .int .i64 s.1), (3, s.2)]) (fun s w' => s.1 ≤ ts.length ∧ ∃ Lv, Sl 24 2 s.2 (stampsFrom 0 (ts.take s.1)).length (flat encS (stampsFrom 0 (ts.take s.1))) Lv ∧ Sf [] w w' Lv _) (fun s => ts.length - s.1) (0, .slice none 0 0) rfl
    ⟨Nat.zero_le _, [], .nil, hS⟩ ?_
  rintro ⟨i, v⟩ us w2 ⟨hi, Lv, hv, hS⟩
  (conv => whnf)
  refine br_i (fun hb => ?_) (fun hb => ?_)
  · have hlt : i < ts.length := by simpa using hb
    have hle : (stampsFrom 0 (ts.take i)).length = i := by rw [stampsFrom_len]; simp; omega
    repeat ((conv => whnf); first | (refine nw_f hS ?_; intro b w1 hS) | (refine ld_f hS 0 rfl rfl ?_) | (refine ldA_f hS 0 rfl rfl ?_) | (refine stN_f hS 0 rfl (Nat.le_of_ble_eq_true rfl) rfl rfl ?_; (conv => whnf); intro w1 hS) | (refine stM_f hS 0 rfl (Nat.le_of_ble_eq_true rfl) rfl ?_; (conv => whnf); intro w1 hS))
    refine .mk ⟨by omega, by omega⟩ ?_
    refine ix_rd (hR.below hS.nil) (flat_ne encU_len (by omega) hlt) ?_
    intro b off hA hc
    (conv => whnf)
    refine ld_el encU_len hc (i := i) (k := 0) hlt (by omega) rfl (v := .int .u32 ts[i]) rfl ?_
    repeat ((conv => whnf); first | (refine nw_f hS ?_; intro b w1 hS) | (refine ld_f hS 0 rfl rfl ?_) | (refine ldA_f hS 0 rfl rfl ?_) | (refine stN_f hS 0 rfl (Nat.le_of_ble_eq_true rfl) rfl rfl ?_; (conv => whnf); intro w1 hS) | (refine stM_f hS 0 rfl (Nat.le_of_ble_eq_true rfl) rfl ?_; (conv => whnf); intro w1 hS))
    have hS0 : Sf [] w _ (Lv ++ []) _ := ⟨by simpa using hS.st⟩
    refine app_f TB_ok elS hS0 hv (hS.rd 0 rfl) rfl (by simp [one]) (by dsimp only; omega) (by dsimp only; omega) ?_
    intro v' Lv' w6 hv' hS
    repeat ((conv => whnf); first | (refine nw_f hS ?_; intro b w1 hS) | (refine ld_f hS 0 rfl rfl ?_) | (refine ldA_f hS 0 rfl rfl ?_) | (refine stN_f hS 0 rfl (Nat.le_of_ble_eq_true rfl) rfl rfl ?_; (conv => whnf); intro w1 hS) | (refine stM_f hS 0 rfl (Nat.le_of_ble_eq_true rfl) rfl ?_; (conv => whnf); intro w1 hS))
    refine ⟨rfl, (i + 1, v'), ?_, ⟨by simp; omega, Lv', ?_, hS.subs (by simp) (by repeat (first | exact List.Sublist.refl _ | apply List.Sublist.cons_cons | apply List.Sublist.cons))⟩, by simp; omega⟩
    · rw [wi hlt (by omega)]
      rfl
    · simp only
      rw [stampsFrom_take _ _ _ hlt, flat_append, List.length_append]
      rw [wi hlt (by omega)] at hv'
      simpa [flat, encS] using hv'
  · have hge : i = ts.length := by simp at hb; simp at hi; omega
    subst hge
    repeat ((conv => whnf); first | (refine nw_f hS ?_; intro b w1 hS) | (refine ld_f hS 0 rfl rfl ?_) | (refine ldA_f hS 0 rfl rfl ?_) | (refine stN_f hS 0 rfl (Nat.le_of_ble_eq_true rfl) rfl rfl ?_; (conv => whnf); intro w1 hS) | (refine stM_f hS 0 rfl (Nat.le_of_ble_eq_true rfl) rfl ?_; (conv => whnf); intro w1 hS))
    refine ⟨Lv, ?_, hS.fr (List.Sublist.refl _)⟩
    simpa using hv

theorem can_c (age : Int) (w : World) : Fc Try.prog 21 [.int .u32 age] w fun v w' => v = polV ⟨0, age, 0⟩ ∧ St [] w w' [] := by
  refine fc_i TB_ok Try.func21 rfl (by kernel_rfl) ?_
  have hS := Sf.refl w
  repeat ((conv => whnf); first | (refine nw_f hS ?_; intro b w1 hS) | (refine ld_f hS 0 rfl rfl ?_) | (refine ldA_f hS 0 rfl rfl ?_) | (refine stN_f hS 0 rfl (Nat.le_of_ble_eq_true rfl) rfl rfl ?_; (conv => whnf); intro w1 hS) | (refine stM_f hS 0 rfl (Nat.le_of_ble_eq_true rfl) rfl ?_; (conv => whnf); intro w1 hS))
  exact ⟨rfl, hS.nil⟩
theorem stages_c (w : World) : Fc Try.prog 22 [] w fun v w' => v = polV ⟨1, 0, 0⟩ ∧ St [] w w' [] := by
  refine fc_i TB_ok Try.func22 rfl (by kernel_rfl) ?_
  have hS := Sf.refl w
  repeat ((conv => whnf); first | (refine nw_f hS ?_; intro b w1 hS) | (refine ld_f hS 0 rfl rfl ?_) | (refine ldA_f hS 0 rfl rfl ?_) | (refine stN_f hS 0 rfl (Nat.le_of_ble_eq_true rfl) rfl rfl ?_; (conv => whnf); intro w1 hS) | (refine stM_f hS 0 rfl (Nat.le_of_ble_eq_true rfl) rfl ?_; (conv => whnf); intro w1 hS))
  exact ⟨rfl, hS.nil⟩

def checkP (p : Pol) : Bool := !(((decide (1 < p.kind) || decide (1073741824 < p.age)) || (p.kind == 1 && decide (0 < p.age))) || decide (p.quota < 0) || decide (1048576 < p.quota))
theorem check_c (p : Pol) (w : World) : Fc Try.prog 13 [polV p] w fun v w' => v = .int .i64 (if checkP p then 0 else 4) ∧ St [] w w' [] := by
  refine fc_i TB_ok Try.func13 rfl (by kernel_rfl) ?_
  have hS := Sf.refl w
  repeat' ((conv => whnf); first | (refine nw_f hS ?_; intro b w1 hS) | (refine ld_f hS 0 rfl rfl ?_) | (refine ldA_f hS 0 rfl rfl ?_) | (refine stN_f hS 0 rfl (Nat.le_of_ble_eq_true rfl) rfl rfl ?_; (conv => whnf); intro w1 hS) | (refine stM_f hS 0 rfl (Nat.le_of_ble_eq_true rfl) rfl ?_; (conv => whnf); intro w1 hS) | (refine br_i (fun _ => ?_) (fun _ => ?_)))
  all_goals exact ⟨by simp [checkP, *], hS.nil⟩

def mayP (p : Pol) : Bool := ((p.kind == 0 && decide (p.age ≤ 1073741824)) || (p.kind == 1 && p.age == 0)) && decide (0 ≤ p.quota) && decide (p.quota ≤ 1048576)
theorem may_c (p : Pol) (w : World) : Fc Try.prog 14 [polV p] w fun v w' => v = .bool (mayP p) ∧ St [] w w' [] := by
  refine fc_i TB_ok Try.func14 rfl (by kernel_rfl) ?_
  have hS := Sf.refl w
  repeat' ((conv => whnf); first | (refine nw_f hS ?_; intro b w1 hS) | (refine ld_f hS 0 rfl rfl ?_) | (refine ldA_f hS 0 rfl rfl ?_) | (refine stN_f hS 0 rfl (Nat.le_of_ble_eq_true rfl) rfl rfl ?_; (conv => whnf); intro w1 hS) | (refine stM_f hS 0 rfl (Nat.le_of_ble_eq_true rfl) rfl ?_; (conv => whnf); intro w1 hS) | (refine br_i (fun _ => ?_) (fun _ => ?_)))
  all_goals exact ⟨by simp [mayP, *], hS.nil⟩

def ynS (l : List Bool) : ByteArray := ⟨(l.map fun b => if b then (121 : UInt8) else 110).toArray⟩
theorem ynS_size (l : List Bool) : (ynS l).size = l.length := by simp [ynS, ByteArray.size]
theorem ynS_true (l : List Bool) : ynS l ++ ⟨#[121]⟩ = ynS (l ++ [true]) := by
  apply ByteArray.ext
  simp [ynS]
theorem ynS_false (l : List Bool) : ynS l ++ ⟨#[110]⟩ = ynS (l ++ [false]) := by
  apply ByteArray.ext
  simp [ynS]
def keepsL (p : Pol) (now : Int) (ts : List Int) : List Bool := (stampsFrom 0 ts).map (keepOne p (stampsFrom 0 ts) now)

theorem keeps_c (p : Pol) (now : Int) (A : Option Addr) (c : Nat) (ts : List Int) (w : World) (hR : Rd w A (flat encU ts)) (hn : ts.length ≤ 17592186044416) :
    Fc Try.prog 20 [polV p, .int .u32 now, .slice A ts.length c] w fun v w' => v = .string (ynS (keepsL p now ts)) ∧ St [] w w' [] := by
  refine fc_i TB_ok Try.func20 rfl (by kernel_rfl) ?_
  have hS := Sf.refl w
  repeat ((conv => whnf); first | (refine nw_f hS ?_; intro b w1 hS) | (refine ld_f hS 0 rfl rfl ?_) | (refine ldA_f hS 0 rfl rfl ?_) | (refine stN_f hS 0 rfl (Nat.le_of_ble_eq_true rfl) rfl rfl ?_; (conv => whnf); intro w1 hS) | (refine stM_f hS 0 rfl (Nat.le_of_ble_eq_true rfl) rfl ?_; (conv => whnf); intro w1 hS))
  refine drawf TB_ok rfl (by kernel_rfl) (by kernel_rfl) hS (List.Sublist.refl _) (List.Sublist.refl _) ?_
  intro w1 hS
  repeat ((conv => whnf); apply q_i; focus (intro w1 hS; (conv => whnf); first | exact ⟨rfl, rfl⟩ | (refine ld_f hS 0 rfl rfl ?_; (conv => whnf); exact ⟨rfl, rfl⟩) | (refine ldA_f hS 0 rfl rfl ?_; (conv => whnf); exact ⟨rfl, rfl⟩)))
  (conv => whnf)
  refine fc_m (ofl_c A c ts _ (hR.below hS.nil) hn) ?_
  rintro v w2 ⟨Ls, hs, hS'⟩
  replace hS := hS.callF hS'
  obtain ⟨As, cs, rfl, hs⟩ := hs.open
  (conv => whnf)
  refine as_i (hS.subs (by simp) (List.Sublist.refl _)) ?_
  repeat ((conv => whnf); apply q_i; focus (intro w1 hS; (conv => whnf); first | exact ⟨rfl, rfl⟩ | (refine ld_f hS 0 rfl rfl ?_; (conv => whnf); exact ⟨rfl, rfl⟩) | (refine ldA_f hS 0 rfl rfl ?_; (conv => whnf); exact ⟨rfl, rfl⟩)))
  (conv => whnf)
  refine fc_m (keep_c p As cs (stampsFrom 0 ts) now _ (hs.rdF hS) (by rw [stampsFrom_len]; omega)) ?_
  rintro v w3 ⟨Lk, hk, hS'⟩
  replace hS := hS.callF hS'
  obtain ⟨Ak, ck, rfl, hk⟩ := hk.open
  (conv => whnf)
  refine as_i (hS.subs (by simp) (List.Sublist.refl _)) ?_
  repeat ((conv => whnf); apply q_i; focus (intro w1 hS; (conv => whnf); first | exact ⟨rfl, rfl⟩ | (refine ld_f hS 0 rfl rfl ?_; (conv => whnf); exact ⟨rfl, rfl⟩) | (refine ldA_f hS 0 rfl rfl ?_; (conv => whnf); exact ⟨rfl, rfl⟩)))
  repeat ((conv => whnf); first | (refine nw_f hS ?_; intro b w1 hS) | (refine ld_f hS 0 rfl rfl ?_) | (refine ldA_f hS 0 rfl rfl ?_) | (refine stN_f hS 0 rfl (Nat.le_of_ble_eq_true rfl) rfl rfl ?_; (conv => whnf); intro w1 hS) | (refine stM_f hS 0 rfl (Nat.le_of_ble_eq_true rfl) rfl ?_; (conv => whnf); intro w1 hS))
  have hlen : (keepsL p now ts).length = (stampsFrom 0 ts).length := by simp [keepsL]
  have hlen2 := stampsFrom_len ts 0
  refine loop_i TB_ok (fun i : Nat => [(9, .int .i64 i), (8, .string (ynS ((keepsL p now ts).take i)))]) (fun i w' => i ≤ (keepsL p now ts).length ∧ Sf [] w w' _ _) (fun i => (keepsL p now ts).length - i) 0 rfl ⟨Nat.zero_le _, hS⟩ ?_
  rintro i us w4 ⟨hi, hS⟩
  (conv => whnf)
  refine br_i (fun hb => ?_) (fun hb => ?_)
  · have hlt : i < (keepsL p now ts).length := by rw [hlen]; simpa using hb
    have hsz : (ynS ((keepsL p now ts).take i)).size = i := by rw [ynS_size]; simp; omega
    repeat ((conv => whnf); first | (refine nw_f hS ?_; intro b w1 hS) | (refine ld_f hS 0 rfl rfl ?_) | (refine ldA_f hS 0 rfl rfl ?_) | (refine stN_f hS 0 rfl (Nat.le_of_ble_eq_true rfl) rfl rfl ?_; (conv => whnf); intro w1 hS) | (refine stM_f hS 0 rfl (Nat.le_of_ble_eq_true rfl) rfl ?_; (conv => whnf); intro w1 hS))
    refine .mk ⟨by omega, by omega⟩ ?_
    refine ix_rd (hk.rdF hS) (flat_ne encB_len (by omega) hlt) ?_
    intro b off hA hc
    (conv => whnf)
    refine ld_el encB_len hc (i := i) (k := 0) hlt (by omega) rfl (v := .bool (keepsL p now ts)[i]) rfl ?_
    (conv => whnf)
    refine br_i (fun hq => ?_) (fun hq => ?_)
    · repeat ((conv => whnf); first | (refine nw_f hS ?_; intro b w1 hS) | (refine ld_f hS 0 rfl rfl ?_) | (refine ldA_f hS 0 rfl rfl ?_) | (refine stN_f hS 0 rfl (Nat.le_of_ble_eq_true rfl) rfl rfl ?_; (conv => whnf); intro w1 hS) | (refine stM_f hS 0 rfl (Nat.le_of_ble_eq_true rfl) rfl ?_; (conv => whnf); intro w1 hS))
      refine .mk (by show (ynS ((keepsL p now ts).take i)).size + 1 ≤ _; omega) ?_
      repeat ((conv => whnf); first | (refine nw_f hS ?_; intro b w1 hS) | (refine ld_f hS 0 rfl rfl ?_) | (refine ldA_f hS 0 rfl rfl ?_) | (refine stN_f hS 0 rfl (Nat.le_of_ble_eq_true rfl) rfl rfl ?_; (conv => whnf); intro w1 hS) | (refine stM_f hS 0 rfl (Nat.le_of_ble_eq_true rfl) rfl ?_; (conv => whnf); intro w1 hS))
      refine ⟨rfl, i + 1, ?_, ⟨by omega, hS⟩, by omega⟩
      rw [wi hlt (by omega), List.take_succ_eq_append_getElem hlt, hq, ← ynS_true]
      rfl
    · repeat ((conv => whnf); first | (refine nw_f hS ?_; intro b w1 hS) | (refine ld_f hS 0 rfl rfl ?_) | (refine ldA_f hS 0 rfl rfl ?_) | (refine stN_f hS 0 rfl (Nat.le_of_ble_eq_true rfl) rfl rfl ?_; (conv => whnf); intro w1 hS) | (refine stM_f hS 0 rfl (Nat.le_of_ble_eq_true rfl) rfl ?_; (conv => whnf); intro w1 hS))
      refine .mk (by show (ynS ((keepsL p now ts).take i)).size + 1 ≤ _; omega) ?_
      repeat ((conv => whnf); first | (refine nw_f hS ?_; intro b w1 hS) | (refine ld_f hS 0 rfl rfl ?_) | (refine ldA_f hS 0 rfl rfl ?_) | (refine stN_f hS 0 rfl (Nat.le_of_ble_eq_true rfl) rfl rfl ?_; (conv => whnf); intro w1 hS) | (refine stM_f hS 0 rfl (Nat.le_of_ble_eq_true rfl) rfl ?_; (conv => whnf); intro w1 hS))
      refine ⟨rfl, i + 1, ?_, ⟨by omega, hS⟩, by omega⟩
      rw [wi hlt (by omega), List.take_succ_eq_append_getElem hlt, hq, ← ynS_false]
      rfl
  · have hge : i = (keepsL p now ts).length := by rw [hlen] at hi ⊢; simp at hb; omega
    subst hge
    repeat ((conv => whnf); first | (refine nw_f hS ?_; intro b w1 hS) | (refine ld_f hS 0 rfl rfl ?_) | (refine ldA_f hS 0 rfl rfl ?_) | (refine stN_f hS 0 rfl (Nat.le_of_ble_eq_true rfl) rfl rfl ?_; (conv => whnf); intro w1 hS) | (refine stM_f hS 0 rfl (Nat.le_of_ble_eq_true rfl) rfl ?_; (conv => whnf); intro w1 hS))
    exact ⟨by simp, hS.nil⟩

theorem awake_c (w : World) : Fc Try.prog 15 [] w fun v w' => v = .bool true ∧ St [] w w' [] := by
  have e1 : streq (ynS (keepsL ⟨0, 5, 0⟩ 9 [3, 4, 9, 12])) ⟨#[110, 121, 121, 121]⟩ = true := by decide +kernel
  have e2 : streq (ynS (keepsL ⟨1, 0, 0⟩ 40 [16, 17, 23, 24, 31])) ⟨#[110, 110, 121, 110, 121]⟩ = true := by decide +kernel
  refine fc_i TB_ok Try.func15 rfl (by kernel_rfl) ?_
  have hS := Sf.refl w
  repeat ((conv => whnf); first | (refine nw_f hS ?_; intro b w1 hS) | (refine ld_f hS 0 rfl rfl ?_) | (refine ldA_f hS 0 rfl rfl ?_) | (refine stN_f hS 0 rfl (Nat.le_of_ble_eq_true rfl) rfl rfl ?_; (conv => whnf); intro w1 hS) | (refine stM_f hS 0 rfl (Nat.le_of_ble_eq_true rfl) rfl ?_; (conv => whnf); intro w1 hS))
  refine fc_m (can_c 5 _) ?_
  rintro v w1 ⟨rfl, hS'⟩
  replace hS := hS.call0 hS'
  repeat ((conv => whnf); first | (refine nw_f hS ?_; intro b w1 hS) | (refine ld_f hS 0 rfl rfl ?_) | (refine ldA_f hS 0 rfl rfl ?_) | (refine stN_f hS 0 rfl (Nat.le_of_ble_eq_true rfl) rfl rfl ?_; (conv => whnf); intro w1 hS) | (refine stM_f hS 0 rfl (Nat.le_of_ble_eq_true rfl) rfl ?_; (conv => whnf); intro w1 hS))
  refine fc_m (keeps_c ⟨0, 5, 0⟩ 9 _ _ [3, 4, 9, 12] _ (hS.rd 0 rfl) (by decide)) ?_
  rintro v w1 ⟨rfl, hS'⟩
  replace hS := hS.call0 hS'
  (conv => whnf)
  refine br_i (fun hb => ?_) (fun hb => absurd (e1.symm.trans hb) (by decide))
  repeat ((conv => whnf); first | (refine nw_f hS ?_; intro b w1 hS) | (refine ld_f hS 0 rfl rfl ?_) | (refine ldA_f hS 0 rfl rfl ?_) | (refine stN_f hS 0 rfl (Nat.le_of_ble_eq_true rfl) rfl rfl ?_; (conv => whnf); intro w1 hS) | (refine stM_f hS 0 rfl (Nat.le_of_ble_eq_true rfl) rfl ?_; (conv => whnf); intro w1 hS))
  refine fc_m (stages_c _) ?_
  rintro v w1 ⟨rfl, hS'⟩
  replace hS := hS.call0 hS'
  repeat ((conv => whnf); first | (refine nw_f hS ?_; intro b w1 hS) | (refine ld_f hS 0 rfl rfl ?_) | (refine ldA_f hS 0 rfl rfl ?_) | (refine stN_f hS 0 rfl (Nat.le_of_ble_eq_true rfl) rfl rfl ?_; (conv => whnf); intro w1 hS) | (refine stM_f hS 0 rfl (Nat.le_of_ble_eq_true rfl) rfl ?_; (conv => whnf); intro w1 hS))
  refine fc_m (keeps_c ⟨1, 0, 0⟩ 40 _ _ [16, 17, 23, 24, 31] _ (hS.rd 0 rfl) (by decide)) ?_
  rintro v w1 ⟨rfl, hS'⟩
  replace hS := hS.call0 hS'
  (conv => whnf)
  refine br_i (fun hb => ?_) (fun hb => absurd (e2.symm.trans hb) (by decide))
  repeat ((conv => whnf); first | (refine nw_f hS ?_; intro b w1 hS) | (refine ld_f hS 0 rfl rfl ?_) | (refine ldA_f hS 0 rfl rfl ?_) | (refine stN_f hS 0 rfl (Nat.le_of_ble_eq_true rfl) rfl rfl ?_; (conv => whnf); intro w1 hS) | (refine stM_f hS 0 rfl (Nat.le_of_ble_eq_true rfl) rfl ?_; (conv => whnf); intro w1 hS))
  refine fc_m (can_c 5 _) ?_
  rintro v w1 ⟨rfl, hS'⟩
  replace hS := hS.call0 hS'
  repeat ((conv => whnf); first | (refine nw_f hS ?_; intro b w1 hS) | (refine ld_f hS 0 rfl rfl ?_) | (refine ldA_f hS 0 rfl rfl ?_) | (refine stN_f hS 0 rfl (Nat.le_of_ble_eq_true rfl) rfl rfl ?_; (conv => whnf); intro w1 hS) | (refine stM_f hS 0 rfl (Nat.le_of_ble_eq_true rfl) rfl ?_; (conv => whnf); intro w1 hS))
  refine fc_m (check_c ⟨0, 5, 0⟩ _) ?_
  rintro v w1 ⟨rfl, hS'⟩
  replace hS := hS.call0 hS'
  repeat ((conv => whnf); first | (refine nw_f hS ?_; intro b w1 hS) | (refine ld_f hS 0 rfl rfl ?_) | (refine ldA_f hS 0 rfl rfl ?_) | (refine stN_f hS 0 rfl (Nat.le_of_ble_eq_true rfl) rfl rfl ?_; (conv => whnf); intro w1 hS) | (refine stM_f hS 0 rfl (Nat.le_of_ble_eq_true rfl) rfl ?_; (conv => whnf); intro w1 hS))
  exact ⟨rfl, hS.nil⟩
end Go.RV
