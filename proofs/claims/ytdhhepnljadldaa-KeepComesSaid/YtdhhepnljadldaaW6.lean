/- Contracts of functions of chapter 9: the document's. Conditions: none. -/
import Derived.Test.YtdhhepnljadldaaW5
set_option maxRecDepth 20000
set_option linter.unusedVariables false
set_option linter.unusedSimpArgs false
namespace Go.RV
open Go Go.Proofs

theorem rnewer_c (a b : Stp) (w : World) : Fc Try.prog 10 [stampV a, stampV b] w fun v w' => v = .bool (K9.newer a b) ∧ St [] w w' [] := by
  refine fc_i TB_ok Try.func10 rfl (by kernel_rfl) ?_
  have hS := Sf.refl w
  repeat' ((conv => whnf); first | (refine nw_f hS ?_; intro b w1 hS) | (refine ld_f hS 0 rfl rfl ?_) | (refine ld_f hS 1 rfl rfl ?_) | (refine ldA_f hS 0 rfl rfl ?_) | (refine ldA_f hS 1 rfl rfl ?_) | (refine stN_f hS 0 rfl (Nat.le_of_ble_eq_true rfl) rfl rfl ?_; (conv => whnf); intro w1 hS) | (refine stN_f hS 1 rfl (Nat.le_of_ble_eq_true rfl) rfl rfl ?_; (conv => whnf); intro w1 hS) | (refine stM_f hS 0 rfl (Nat.le_of_ble_eq_true rfl) rfl ?_; (conv => whnf); intro w1 hS) | (refine stM_f hS 1 rfl (Nat.le_of_ble_eq_true rfl) rfl ?_; (conv => whnf); intro w1 hS) | (refine br_i (fun _ => ?_) (fun _ => ?_)))
  all_goals refine ⟨?_, hS.nil⟩
  all_goals congr 1
  all_goals simp_all [K9.newer]
  all_goals omega

theorem rage_c (s : Stp) (now : Int) (w : World) : Fc Try.prog 12 [stampV s, .int .u32 now] w fun v w' => v = .int .u32 (ageP s now) ∧ St [] w w' [] := by
  refine fc_i TB_ok Try.func12 rfl (by kernel_rfl) ?_
  have hS := Sf.refl w
  repeat' ((conv => whnf); first | (refine nw_f hS ?_; intro b w1 hS) | (refine ld_f hS 0 rfl rfl ?_) | (refine ldA_f hS 0 rfl rfl ?_) | (refine stN_f hS 0 rfl (Nat.le_of_ble_eq_true rfl) rfl rfl ?_; (conv => whnf); intro w1 hS) | (refine stM_f hS 0 rfl (Nat.le_of_ble_eq_true rfl) rfl ?_; (conv => whnf); intro w1 hS) | (refine br_i (fun _ => ?_) (fun _ => ?_)))
  all_goals refine ⟨?_, hS.nil⟩
  · rename_i hb
    have h : now < s.tick := by simpa using hb
    have e : max now s.tick - s.tick = 0 := by omega
    simp only [ageP, e]
    rfl
  · rename_i hb
    have h : s.tick ≤ now := by simpa using hb
    have e : max now s.tick - s.tick = now - s.tick := by omega
    simp only [ageP, e]

def fromR (s : Stp) (width : Int) : Int := IntKind.u32.wrap (s.tick - s.tick.tmod width)
def inR (s : Stp) (width : Int) (x : Stp) : Bool := decide (fromR s width ≤ x.tick) && decide (IntKind.u32.wrap (x.tick - fromR s width) < width) && K9.newer x s
def firstR (xs : List Stp) (s : Stp) (width : Int) : Bool := !(xs.any (inR s width))
theorem any_take_succ {α : Type} (f : α → Bool) (xs : List α) (i : Nat) (h : i < xs.length) : (xs.take (i+1)).any f = ((xs.take i).any f || f xs[i]) := by
  rw [List.take_succ_eq_append_getElem h, List.any_append]
  simp
theorem any_of_get {α : Type} (f : α → Bool) (xs : List α) (i : Nat) (h : i < xs.length) (hf : f xs[i] = true) : xs.any f = true := List.any_eq_true.mpr ⟨xs[i], List.getElem_mem h, hf⟩

theorem inR_of {s x : Stp} {width : Int} {p q r : Bool} (h1 : decide (fromR s width ≤ x.tick) = p) (h2 : decide (IntKind.u32.wrap (x.tick - fromR s width) < width) = q) (h3 : K9.newer x s = r) : inR s width x = (p && q && r) := by rw [inR, h1, h2, h3]
theorem Rd.cells {A : Option Addr} {cs : List Value} {w : World} (hR : Rd w A cs) (hne : cs ≠ []) : ∃ b off, A = some ⟨b, off, none⟩ ∧ ∀ w1, St [] w w1 [] → ∀ j v o, cs[j]? = some v → o = off + j → w1.cell? ⟨b, o, none⟩ = some v := by
  rcases hR with h1 | ⟨b, off, rfl, h1⟩
  · exact absurd h1 hne
  · refine ⟨b, off, rfl, fun w1 hS j v o hj ho => ?_⟩
    have h2 : Rd w1 (some ⟨b, off, none⟩) cs := Rd.below (.inr ⟨b, off, rfl, h1⟩) hS
    rcases h2 with h3 | ⟨b', off', e, h3⟩
    · exact absurd h3 hne
    · cases e; rw [ho]; exact h3 j v hj

theorem rfirst_c (A : Option Addr) (c : Nat) (xs : List Stp) (s : Stp) (width : Int) (hw : width ≠ 0) (w : World) (hR : Rd w A (flat encS xs)) (hn : xs.length ≤ 4611686018427387904) :
    Fc Try.prog 29 [.slice A xs.length c, stampV s, .int .u32 width] w fun v w' => v = .bool (firstR xs s width) ∧ St [] w w' [] := by
  refine fc_i TB_ok Try.func29 rfl (by kernel_rfl) ?_
  have hS := Sf.refl w
  repeat ((conv => whnf); first | (refine nw_f hS ?_; intro b w1 hS) | (refine ld_f hS 0 rfl rfl ?_) | (refine ldA_f hS 0 rfl rfl ?_) | (refine stN_f hS 0 rfl (Nat.le_of_ble_eq_true rfl) rfl rfl ?_; (conv => whnf); intro w1 hS) | (refine stM_f hS 0 rfl (Nat.le_of_ble_eq_true rfl) rfl ?_; (conv => whnf); intro w1 hS))
  refine drawf TB_ok rfl (by kernel_rfl) (by kernel_rfl) hS (List.Sublist.refl _) (List.Sublist.refl _) ?_
  intro w1 hS
  repeat ((conv => whnf); apply q_i; focus (intro w1 hS; (conv => whnf); first | exact ⟨rfl, rfl⟩ | (refine ld_f hS 0 rfl rfl ?_; (conv => whnf); exact ⟨rfl, rfl⟩) | (refine ldA_f hS 0 rfl rfl ?_; (conv => whnf); exact ⟨rfl, rfl⟩) | (refine .mk hw ?_; (conv => whnf); exact ⟨rfl, rfl⟩)))
  repeat ((conv => whnf); first | (refine nw_f hS ?_; intro b w1 hS) | (refine ld_f hS 0 rfl rfl ?_) | (refine ldA_f hS 0 rfl rfl ?_) | (refine stN_f hS 0 rfl (Nat.le_of_ble_eq_true rfl) rfl rfl ?_; (conv => whnf); intro w1 hS) | (refine stM_f hS 0 rfl (Nat.le_of_ble_eq_true rfl) rfl ?_; (conv => whnf); intro w1 hS))
  refine loop_i TB_ok (fun i : Nat => [(8, .int .i64 i)]) (fun i w' => i ≤ xs.length ∧ (xs.take i).any (inR s width) = false ∧ Sf [] w w' _ _) (fun i => xs.length - i) 0 rfl ⟨Nat.zero_le _, by simp, hS⟩ ?_
  rintro i us w2 ⟨hi, hno, hS⟩
  (conv => whnf)
  refine br_i (fun hb => ?_) (fun hb => ?_)
  · have hlt : i < xs.length := by simpa using hb
    obtain ⟨b, off, rfl, hc⟩ := hR.cells (flat_ne encS_len (by omega) hlt)
    repeat ((conv => whnf); first | (refine nw_f hS ?_; intro b w1 hS) | (refine ld_f hS 0 rfl rfl ?_) | (refine ldA_f hS 0 rfl rfl ?_) | (refine stN_f hS 0 rfl (Nat.le_of_ble_eq_true rfl) rfl rfl ?_; (conv => whnf); intro w1 hS) | (refine stM_f hS 0 rfl (Nat.le_of_ble_eq_true rfl) rfl ?_; (conv => whnf); intro w1 hS))
    refine drawf TB_ok rfl (by kernel_rfl) (by kernel_rfl) hS (List.Sublist.refl _) (List.Sublist.refl _) ?_
    intro w1 hS
    repeat ((conv => whnf); apply q_i; focus (intro w1 hS; (conv => whnf); first | exact ⟨rfl, rfl⟩ | (refine ld_f hS 0 rfl rfl ?_; (conv => whnf); exact ⟨rfl, rfl⟩) | (refine ldA_f hS 0 rfl rfl ?_; (conv => whnf); exact ⟨rfl, rfl⟩) | (refine .mk ⟨by omega, by omega⟩ ?_; refine ix_i rfl ?_; (conv => whnf); exact ⟨rfl, rfl⟩) | (refine ld_el encS_len (hc _ hS.nil) (k := 1) hlt (by omega) rfl (v := .int .u32 xs[i].tick) rfl ?_; (conv => whnf); exact ⟨rfl, rfl⟩) | (refine ldN_el encS_len (hc _ hS.nil) hlt rfl rfl ?_; (conv => whnf); exact ⟨rfl, rfl⟩)))
    (conv => whnf)
    refine br_i (fun h1 => ?_) (fun h1 => ?_)
    · repeat ((conv => whnf); apply q_i; focus (intro w1 hS; (conv => whnf); first | exact ⟨rfl, rfl⟩ | (refine ld_f hS 0 rfl rfl ?_; (conv => whnf); exact ⟨rfl, rfl⟩) | (refine ldA_f hS 0 rfl rfl ?_; (conv => whnf); exact ⟨rfl, rfl⟩) | (refine .mk ⟨by omega, by omega⟩ ?_; refine ix_i rfl ?_; (conv => whnf); exact ⟨rfl, rfl⟩) | (refine ld_el encS_len (hc _ hS.nil) (k := 1) hlt (by omega) rfl (v := .int .u32 xs[i].tick) rfl ?_; (conv => whnf); exact ⟨rfl, rfl⟩) | (refine ldN_el encS_len (hc _ hS.nil) hlt rfl rfl ?_; (conv => whnf); exact ⟨rfl, rfl⟩)))
      (conv => whnf)
      refine br_i (fun h2 => ?_) (fun h2 => ?_)
      · repeat ((conv => whnf); apply q_i; focus (intro w1 hS; (conv => whnf); first | exact ⟨rfl, rfl⟩ | (refine ld_f hS 0 rfl rfl ?_; (conv => whnf); exact ⟨rfl, rfl⟩) | (refine ldA_f hS 0 rfl rfl ?_; (conv => whnf); exact ⟨rfl, rfl⟩) | (refine .mk ⟨by omega, by omega⟩ ?_; refine ix_i rfl ?_; (conv => whnf); exact ⟨rfl, rfl⟩) | (refine ld_el encS_len (hc _ hS.nil) (k := 1) hlt (by omega) rfl (v := .int .u32 xs[i].tick) rfl ?_; (conv => whnf); exact ⟨rfl, rfl⟩) | (refine ldN_el encS_len (hc _ hS.nil) hlt rfl rfl ?_; (conv => whnf); exact ⟨rfl, rfl⟩)))
        (conv => whnf)
        refine fc_m (rnewer_c xs[i] s _) ?_
        rintro v w3 ⟨rfl, hS'⟩
        replace hS := hS.call0 hS'
        (conv => whnf)
        refine as_i hS ?_
        repeat ((conv => whnf); apply q_i; focus (intro w1 hS; (conv => whnf); first | exact ⟨rfl, rfl⟩ | (refine ld_f hS 0 rfl rfl ?_; (conv => whnf); exact ⟨rfl, rfl⟩) | (refine ldA_f hS 0 rfl rfl ?_; (conv => whnf); exact ⟨rfl, rfl⟩)))
        (conv => whnf)
        refine br_i (fun h3 => ?_) (fun h3 => ?_)
        · repeat ((conv => whnf); first | (refine nw_f hS ?_; intro b w1 hS) | (refine ld_f hS 0 rfl rfl ?_) | (refine ldA_f hS 0 rfl rfl ?_) | (refine stN_f hS 0 rfl (Nat.le_of_ble_eq_true rfl) rfl rfl ?_; (conv => whnf); intro w1 hS) | (refine stM_f hS 0 rfl (Nat.le_of_ble_eq_true rfl) rfl ?_; (conv => whnf); intro w1 hS))
          have : inR s width xs[i] = true := inR_of h1 h2 h3
          refine ⟨?_, hS.nil⟩
          rw [firstR, any_of_get _ _ _ hlt this]
          rfl
        · repeat ((conv => whnf); first | (refine nw_f hS ?_; intro b w1 hS) | (refine ld_f hS 0 rfl rfl ?_) | (refine ldA_f hS 0 rfl rfl ?_) | (refine stN_f hS 0 rfl (Nat.le_of_ble_eq_true rfl) rfl rfl ?_; (conv => whnf); intro w1 hS) | (refine stM_f hS 0 rfl (Nat.le_of_ble_eq_true rfl) rfl ?_; (conv => whnf); intro w1 hS))
          have : inR s width xs[i] = false := by simp [inR, h3]
          refine ⟨rfl, i + 1, ?_, ⟨by omega, by rw [any_take_succ _ _ _ hlt, hno, this]; rfl, hS⟩, by omega⟩
          rw [wi hlt hn]
          rfl
      · repeat ((conv => whnf); apply q_i; focus (intro w1 hS; (conv => whnf); first | exact ⟨rfl, rfl⟩ | (refine ld_f hS 0 rfl rfl ?_; (conv => whnf); exact ⟨rfl, rfl⟩) | (refine ldA_f hS 0 rfl rfl ?_; (conv => whnf); exact ⟨rfl, rfl⟩)))
        repeat ((conv => whnf); first | (refine nw_f hS ?_; intro b w1 hS) | (refine ld_f hS 0 rfl rfl ?_) | (refine ldA_f hS 0 rfl rfl ?_) | (refine stN_f hS 0 rfl (Nat.le_of_ble_eq_true rfl) rfl rfl ?_; (conv => whnf); intro w1 hS) | (refine stM_f hS 0 rfl (Nat.le_of_ble_eq_true rfl) rfl ?_; (conv => whnf); intro w1 hS))
        have : inR s width xs[i] = false := inR_of h1 h2 rfl
        refine ⟨rfl, i + 1, ?_, ⟨by omega, by rw [any_take_succ _ _ _ hlt, hno, this]; rfl, hS⟩, by omega⟩
        rw [wi hlt hn]
        rfl
    · repeat ((conv => whnf); apply q_i; focus (intro w1 hS; (conv => whnf); first | exact ⟨rfl, rfl⟩ | (refine ld_f hS 0 rfl rfl ?_; (conv => whnf); exact ⟨rfl, rfl⟩) | (refine ldA_f hS 0 rfl rfl ?_; (conv => whnf); exact ⟨rfl, rfl⟩)))
      repeat ((conv => whnf); first | (refine nw_f hS ?_; intro b w1 hS) | (refine ld_f hS 0 rfl rfl ?_) | (refine ldA_f hS 0 rfl rfl ?_) | (refine stN_f hS 0 rfl (Nat.le_of_ble_eq_true rfl) rfl rfl ?_; (conv => whnf); intro w1 hS) | (refine stM_f hS 0 rfl (Nat.le_of_ble_eq_true rfl) rfl ?_; (conv => whnf); intro w1 hS))
      have : inR s width xs[i] = false := inR_of h1 rfl rfl
      refine ⟨rfl, i + 1, ?_, ⟨by omega, by rw [any_take_succ _ _ _ hlt, hno, this]; rfl, hS⟩, by omega⟩
      rw [wi hlt hn]
      rfl
  · have hge : i = xs.length := by simp at hb; omega
    subst hge
    repeat ((conv => whnf); first | (refine nw_f hS ?_; intro b w1 hS) | (refine ld_f hS 0 rfl rfl ?_) | (refine ldA_f hS 0 rfl rfl ?_) | (refine stN_f hS 0 rfl (Nat.le_of_ble_eq_true rfl) rfl rfl ?_; (conv => whnf); intro w1 hS) | (refine stM_f hS 0 rfl (Nat.le_of_ble_eq_true rfl) rfl ?_; (conv => whnf); intro w1 hS))
    refine ⟨?_, hS.nil⟩
    simp only [List.take_length] at hno
    rw [firstR, hno]
    rfl

theorem elRS : ElemOk Try.prog TB 42 30 2 8 := ⟨rfl, ⟨_, _, inf30, rfl, rfl, rfl, rfl⟩, by decide⟩
def oneR (p : Pol) (xs : List Stp) (s : Stp) (now : Int) : Bool := if p.kind = 0 then (p.age == 0 || decide (ageP s now ≤ p.age)) else if p.kind ≠ 1 ∨ ageP s now < 8 then true else if ageP s now < 64 then firstR xs s 8 else if ageP s now < 512 then firstR xs s 64 else false
theorem rone_c (p : Pol) (A : Option Addr) (c : Nat) (xs : List Stp) (s : Stp) (now : Int) (w : World) (hR : Rd w A (flat encS xs)) (hn : xs.length ≤ 4611686018427387904) :
    Fc Try.prog 25 [polV p, .slice A xs.length c, stampV s, .int .u32 now] w fun v w' => v = .bool (oneR p xs s now) ∧ St [] w w' [] := by
  refine fc_i TB_ok Try.func25 rfl (by kernel_rfl) ?_
  have hS := Sf.refl w
  repeat ((conv => whnf); first | (refine nw_f hS ?_; intro b w1 hS) | (refine ld_f hS 0 rfl rfl ?_) | (refine ld_f hS 1 rfl rfl ?_) | (refine ldA_f hS 0 rfl rfl ?_) | (refine ldA_f hS 1 rfl rfl ?_) | (refine stN_f hS 0 rfl (Nat.le_of_ble_eq_true rfl) rfl rfl ?_; (conv => whnf); intro w1 hS) | (refine stN_f hS 1 rfl (Nat.le_of_ble_eq_true rfl) rfl rfl ?_; (conv => whnf); intro w1 hS) | (refine stM_f hS 0 rfl (Nat.le_of_ble_eq_true rfl) rfl ?_; (conv => whnf); intro w1 hS) | (refine stM_f hS 1 rfl (Nat.le_of_ble_eq_true rfl) rfl ?_; (conv => whnf); intro w1 hS))
  refine fc_m (rage_c s now _) ?_
  rintro v w3 ⟨rfl, hS'⟩
  replace hS := hS.call0 hS'
  repeat ((conv => whnf); first | (refine nw_f hS ?_; intro b w1 hS) | (refine ld_f hS 0 rfl rfl ?_) | (refine ld_f hS 1 rfl rfl ?_) | (refine ldA_f hS 0 rfl rfl ?_) | (refine ldA_f hS 1 rfl rfl ?_) | (refine stN_f hS 0 rfl (Nat.le_of_ble_eq_true rfl) rfl rfl ?_; (conv => whnf); intro w1 hS) | (refine stN_f hS 1 rfl (Nat.le_of_ble_eq_true rfl) rfl rfl ?_; (conv => whnf); intro w1 hS) | (refine stM_f hS 0 rfl (Nat.le_of_ble_eq_true rfl) rfl ?_; (conv => whnf); intro w1 hS) | (refine stM_f hS 1 rfl (Nat.le_of_ble_eq_true rfl) rfl ?_; (conv => whnf); intro w1 hS))
  refine br_i (fun h0 => ?_) (fun h0 => ?_)
  · repeat' ((conv => whnf); first | (refine nw_f hS ?_; intro b w1 hS) | (refine ld_f hS 0 rfl rfl ?_) | (refine ld_f hS 1 rfl rfl ?_) | (refine ldA_f hS 0 rfl rfl ?_) | (refine ldA_f hS 1 rfl rfl ?_) | (refine stN_f hS 0 rfl (Nat.le_of_ble_eq_true rfl) rfl rfl ?_; (conv => whnf); intro w1 hS) | (refine stN_f hS 1 rfl (Nat.le_of_ble_eq_true rfl) rfl rfl ?_; (conv => whnf); intro w1 hS) | (refine stM_f hS 0 rfl (Nat.le_of_ble_eq_true rfl) rfl ?_; (conv => whnf); intro w1 hS) | (refine stM_f hS 1 rfl (Nat.le_of_ble_eq_true rfl) rfl ?_; (conv => whnf); intro w1 hS) | (refine br_i (fun _ => ?_) (fun _ => ?_)))
    all_goals exact ⟨by simp at h0; simp [oneR, *], hS.nil⟩
  · repeat ((conv => whnf); first | (refine nw_f hS ?_; intro b w1 hS) | (refine ld_f hS 0 rfl rfl ?_) | (refine ld_f hS 1 rfl rfl ?_) | (refine ldA_f hS 0 rfl rfl ?_) | (refine ldA_f hS 1 rfl rfl ?_) | (refine stN_f hS 0 rfl (Nat.le_of_ble_eq_true rfl) rfl rfl ?_; (conv => whnf); intro w1 hS) | (refine stN_f hS 1 rfl (Nat.le_of_ble_eq_true rfl) rfl rfl ?_; (conv => whnf); intro w1 hS) | (refine stM_f hS 0 rfl (Nat.le_of_ble_eq_true rfl) rfl ?_; (conv => whnf); intro w1 hS) | (refine stM_f hS 1 rfl (Nat.le_of_ble_eq_true rfl) rfl ?_; (conv => whnf); intro w1 hS))
    refine br_i (fun h1 => ?_) (fun h1 => ?_)
    · repeat ((conv => whnf); first | (refine nw_f hS ?_; intro b w1 hS) | (refine ld_f hS 0 rfl rfl ?_) | (refine ld_f hS 1 rfl rfl ?_) | (refine ldA_f hS 0 rfl rfl ?_) | (refine ldA_f hS 1 rfl rfl ?_) | (refine stN_f hS 0 rfl (Nat.le_of_ble_eq_true rfl) rfl rfl ?_; (conv => whnf); intro w1 hS) | (refine stN_f hS 1 rfl (Nat.le_of_ble_eq_true rfl) rfl rfl ?_; (conv => whnf); intro w1 hS) | (refine stM_f hS 0 rfl (Nat.le_of_ble_eq_true rfl) rfl ?_; (conv => whnf); intro w1 hS) | (refine stM_f hS 1 rfl (Nat.le_of_ble_eq_true rfl) rfl ?_; (conv => whnf); intro w1 hS))
      exact ⟨by simp at h0 h1; simp [oneR, *], hS.nil⟩
    · repeat ((conv => whnf); first | (refine nw_f hS ?_; intro b w1 hS) | (refine ld_f hS 0 rfl rfl ?_) | (refine ld_f hS 1 rfl rfl ?_) | (refine ldA_f hS 0 rfl rfl ?_) | (refine ldA_f hS 1 rfl rfl ?_) | (refine stN_f hS 0 rfl (Nat.le_of_ble_eq_true rfl) rfl rfl ?_; (conv => whnf); intro w1 hS) | (refine stN_f hS 1 rfl (Nat.le_of_ble_eq_true rfl) rfl rfl ?_; (conv => whnf); intro w1 hS) | (refine stM_f hS 0 rfl (Nat.le_of_ble_eq_true rfl) rfl ?_; (conv => whnf); intro w1 hS) | (refine stM_f hS 1 rfl (Nat.le_of_ble_eq_true rfl) rfl ?_; (conv => whnf); intro w1 hS))
      refine br_i (fun h2 => ?_) (fun h2 => ?_)
      · repeat ((conv => whnf); first | (refine nw_f hS ?_; intro b w1 hS) | (refine ld_f hS 0 rfl rfl ?_) | (refine ld_f hS 1 rfl rfl ?_) | (refine ldA_f hS 0 rfl rfl ?_) | (refine ldA_f hS 1 rfl rfl ?_) | (refine stN_f hS 0 rfl (Nat.le_of_ble_eq_true rfl) rfl rfl ?_; (conv => whnf); intro w1 hS) | (refine stN_f hS 1 rfl (Nat.le_of_ble_eq_true rfl) rfl rfl ?_; (conv => whnf); intro w1 hS) | (refine stM_f hS 0 rfl (Nat.le_of_ble_eq_true rfl) rfl ?_; (conv => whnf); intro w1 hS) | (refine stM_f hS 1 rfl (Nat.le_of_ble_eq_true rfl) rfl ?_; (conv => whnf); intro w1 hS))
        exact ⟨by simp at h0 h1 h2; simp [oneR, *], hS.nil⟩
      · repeat ((conv => whnf); first | (refine nw_f hS ?_; intro b w1 hS) | (refine ld_f hS 0 rfl rfl ?_) | (refine ld_f hS 1 rfl rfl ?_) | (refine ldA_f hS 0 rfl rfl ?_) | (refine ldA_f hS 1 rfl rfl ?_) | (refine stN_f hS 0 rfl (Nat.le_of_ble_eq_true rfl) rfl rfl ?_; (conv => whnf); intro w1 hS) | (refine stN_f hS 1 rfl (Nat.le_of_ble_eq_true rfl) rfl rfl ?_; (conv => whnf); intro w1 hS) | (refine stM_f hS 0 rfl (Nat.le_of_ble_eq_true rfl) rfl ?_; (conv => whnf); intro w1 hS) | (refine stM_f hS 1 rfl (Nat.le_of_ble_eq_true rfl) rfl ?_; (conv => whnf); intro w1 hS))
        refine br_i (fun h3 => ?_) (fun h3 => ?_)
        · repeat ((conv => whnf); first | (refine nw_f hS ?_; intro b w1 hS) | (refine ld_f hS 0 rfl rfl ?_) | (refine ld_f hS 1 rfl rfl ?_) | (refine ldA_f hS 0 rfl rfl ?_) | (refine ldA_f hS 1 rfl rfl ?_) | (refine stN_f hS 0 rfl (Nat.le_of_ble_eq_true rfl) rfl rfl ?_; (conv => whnf); intro w1 hS) | (refine stN_f hS 1 rfl (Nat.le_of_ble_eq_true rfl) rfl rfl ?_; (conv => whnf); intro w1 hS) | (refine stM_f hS 0 rfl (Nat.le_of_ble_eq_true rfl) rfl ?_; (conv => whnf); intro w1 hS) | (refine stM_f hS 1 rfl (Nat.le_of_ble_eq_true rfl) rfl ?_; (conv => whnf); intro w1 hS))
          refine fc_m (rfirst_c A c xs s 8 (by decide) _ (hR.below hS.nil) hn) ?_
          rintro v w3 ⟨rfl, hS'⟩
          replace hS := hS.call0 hS'
          repeat ((conv => whnf); first | (refine nw_f hS ?_; intro b w1 hS) | (refine ld_f hS 0 rfl rfl ?_) | (refine ld_f hS 1 rfl rfl ?_) | (refine ldA_f hS 0 rfl rfl ?_) | (refine ldA_f hS 1 rfl rfl ?_) | (refine stN_f hS 0 rfl (Nat.le_of_ble_eq_true rfl) rfl rfl ?_; (conv => whnf); intro w1 hS) | (refine stN_f hS 1 rfl (Nat.le_of_ble_eq_true rfl) rfl rfl ?_; (conv => whnf); intro w1 hS) | (refine stM_f hS 0 rfl (Nat.le_of_ble_eq_true rfl) rfl ?_; (conv => whnf); intro w1 hS) | (refine stM_f hS 1 rfl (Nat.le_of_ble_eq_true rfl) rfl ?_; (conv => whnf); intro w1 hS))
          refine ⟨?_, hS.nil⟩
          simp at h0 h1 h2 h3
          rw [oneR, if_neg h0, if_neg (by simp [h1]; omega), if_pos h3]
        · repeat ((conv => whnf); first | (refine nw_f hS ?_; intro b w1 hS) | (refine ld_f hS 0 rfl rfl ?_) | (refine ld_f hS 1 rfl rfl ?_) | (refine ldA_f hS 0 rfl rfl ?_) | (refine ldA_f hS 1 rfl rfl ?_) | (refine stN_f hS 0 rfl (Nat.le_of_ble_eq_true rfl) rfl rfl ?_; (conv => whnf); intro w1 hS) | (refine stN_f hS 1 rfl (Nat.le_of_ble_eq_true rfl) rfl rfl ?_; (conv => whnf); intro w1 hS) | (refine stM_f hS 0 rfl (Nat.le_of_ble_eq_true rfl) rfl ?_; (conv => whnf); intro w1 hS) | (refine stM_f hS 1 rfl (Nat.le_of_ble_eq_true rfl) rfl ?_; (conv => whnf); intro w1 hS))
          refine br_i (fun h4 => ?_) (fun h4 => ?_)
          · repeat ((conv => whnf); first | (refine nw_f hS ?_; intro b w1 hS) | (refine ld_f hS 0 rfl rfl ?_) | (refine ld_f hS 1 rfl rfl ?_) | (refine ldA_f hS 0 rfl rfl ?_) | (refine ldA_f hS 1 rfl rfl ?_) | (refine stN_f hS 0 rfl (Nat.le_of_ble_eq_true rfl) rfl rfl ?_; (conv => whnf); intro w1 hS) | (refine stN_f hS 1 rfl (Nat.le_of_ble_eq_true rfl) rfl rfl ?_; (conv => whnf); intro w1 hS) | (refine stM_f hS 0 rfl (Nat.le_of_ble_eq_true rfl) rfl ?_; (conv => whnf); intro w1 hS) | (refine stM_f hS 1 rfl (Nat.le_of_ble_eq_true rfl) rfl ?_; (conv => whnf); intro w1 hS))
            refine fc_m (rfirst_c A c xs s 64 (by decide) _ (hR.below hS.nil) hn) ?_
            rintro v w3 ⟨rfl, hS'⟩
            replace hS := hS.call0 hS'
            repeat ((conv => whnf); first | (refine nw_f hS ?_; intro b w1 hS) | (refine ld_f hS 0 rfl rfl ?_) | (refine ld_f hS 1 rfl rfl ?_) | (refine ldA_f hS 0 rfl rfl ?_) | (refine ldA_f hS 1 rfl rfl ?_) | (refine stN_f hS 0 rfl (Nat.le_of_ble_eq_true rfl) rfl rfl ?_; (conv => whnf); intro w1 hS) | (refine stN_f hS 1 rfl (Nat.le_of_ble_eq_true rfl) rfl rfl ?_; (conv => whnf); intro w1 hS) | (refine stM_f hS 0 rfl (Nat.le_of_ble_eq_true rfl) rfl ?_; (conv => whnf); intro w1 hS) | (refine stM_f hS 1 rfl (Nat.le_of_ble_eq_true rfl) rfl ?_; (conv => whnf); intro w1 hS))
            refine ⟨?_, hS.nil⟩
            simp at h0 h1 h2 h3 h4
            rw [oneR, if_neg h0, if_neg (by simp [h1]; omega), if_neg (by omega), if_pos h4]
          · repeat ((conv => whnf); first | (refine nw_f hS ?_; intro b w1 hS) | (refine ld_f hS 0 rfl rfl ?_) | (refine ld_f hS 1 rfl rfl ?_) | (refine ldA_f hS 0 rfl rfl ?_) | (refine ldA_f hS 1 rfl rfl ?_) | (refine stN_f hS 0 rfl (Nat.le_of_ble_eq_true rfl) rfl rfl ?_; (conv => whnf); intro w1 hS) | (refine stN_f hS 1 rfl (Nat.le_of_ble_eq_true rfl) rfl rfl ?_; (conv => whnf); intro w1 hS) | (refine stM_f hS 0 rfl (Nat.le_of_ble_eq_true rfl) rfl ?_; (conv => whnf); intro w1 hS) | (refine stM_f hS 1 rfl (Nat.le_of_ble_eq_true rfl) rfl ?_; (conv => whnf); intro w1 hS))
            refine ⟨?_, hS.nil⟩
            simp at h0 h1 h2 h3 h4
            rw [oneR, if_neg h0, if_neg (by simp [h1]; omega), if_neg (by omega), if_neg (by omega)]

theorem rkeep_c (p : Pol) (A : Option Addr) (c : Nat) (xs : List Stp) (now : Int) (w : World) (hR : Rd w A (flat encS xs)) (hn : xs.length ≤ 70368744177664) :
    Fc Try.prog 17 [polV p, .slice A xs.length c, .int .u32 now] w fun v w' => ∃ L, Sl 4 1 v xs.length (flat encB (xs.map fun s => oneR p xs s now)) L ∧ St [] w w' L := by
  refine fc_i TB_ok Try.func17 rfl (by kernel_rfl) ?_
  have hS := Sf.refl w
  repeat ((conv => whnf); first | (refine nw_f hS ?_; intro b w1 hS) | (refine ld_f hS 0 rfl rfl ?_) | (refine ld_f hS 1 rfl rfl ?_) | (refine ldA_f hS 0 rfl rfl ?_) | (refine ldA_f hS 1 rfl rfl ?_) | (refine stN_f hS 0 rfl (Nat.le_of_ble_eq_true rfl) rfl rfl ?_; (conv => whnf); intro w1 hS) | (refine stN_f hS 1 rfl (Nat.le_of_ble_eq_true rfl) rfl rfl ?_; (conv => whnf); intro w1 hS) | (refine stM_f hS 0 rfl (Nat.le_of_ble_eq_true rfl) rfl ?_; (conv => whnf); intro w1 hS) | (refine stM_f hS 1 rfl (Nat.le_of_ble_eq_true rfl) rfl ?_; (conv => whnf); intro w1 hS))
  refine loop_i TB_ok (fun s : Nat × Value => [(8, .int .i64 s.1), (7, s.2)]) (fun s w' => s.1 ≤ xs.length ∧ ∃ Lv, Sl 4 1 s.2 s.1 (flat encB ((xs.take s.1).map fun s => oneR p xs s now)) Lv ∧ Sf [] w w' Lv _) (fun s => xs.length - s.1) (0, .slice none 0 0) rfl
    ⟨Nat.zero_le _, [], .nil, by simpa using hS⟩ ?_
  rintro ⟨i, v⟩ us w2 ⟨hi, Lv, hv, hS⟩
  (conv => whnf)
  refine br_i (fun hb => ?_) (fun hb => ?_)
  · have hlt : i < xs.length := by simpa using hb
    obtain ⟨b, off, rfl, hc⟩ := hR.cells (flat_ne encS_len (by omega) hlt)
    repeat ((conv => whnf); first | (refine nw_f hS ?_; intro b w1 hS) | (refine ld_f hS 0 rfl rfl ?_) | (refine ld_f hS 1 rfl rfl ?_) | (refine ld_f hS 2 rfl rfl ?_) | (refine ldA_f hS 0 rfl rfl ?_) | (refine ldA_f hS 1 rfl rfl ?_) | (refine ldA_f hS 2 rfl rfl ?_) | (refine stN_f hS 0 rfl (Nat.le_of_ble_eq_true rfl) rfl rfl ?_; (conv => whnf); intro w1 hS) | (refine stN_f hS 1 rfl (Nat.le_of_ble_eq_true rfl) rfl rfl ?_; (conv => whnf); intro w1 hS) | (refine stN_f hS 2 rfl (Nat.le_of_ble_eq_true rfl) rfl rfl ?_; (conv => whnf); intro w1 hS) | (refine stM_f hS 0 rfl (Nat.le_of_ble_eq_true rfl) rfl ?_; (conv => whnf); intro w1 hS) | (refine stM_f hS 1 rfl (Nat.le_of_ble_eq_true rfl) rfl ?_; (conv => whnf); intro w1 hS) | (refine stM_f hS 2 rfl (Nat.le_of_ble_eq_true rfl) rfl ?_; (conv => whnf); intro w1 hS))
    refine drawf TB_ok rfl (by kernel_rfl) (by kernel_rfl) hS (List.Sublist.refl _) (List.Sublist.refl _) ?_
    intro w2 hS
    repeat ((conv => whnf); apply q_i; focus (intro w1 hS; (conv => whnf); first | exact ⟨rfl, rfl⟩ | (refine ld_f hS 0 rfl rfl ?_; (conv => whnf); exact ⟨rfl, rfl⟩) | (refine ld_f hS 1 rfl rfl ?_; (conv => whnf); exact ⟨rfl, rfl⟩) | (refine ld_f hS 2 rfl rfl ?_; (conv => whnf); exact ⟨rfl, rfl⟩) | (refine ldA_f hS 0 rfl rfl ?_; (conv => whnf); exact ⟨rfl, rfl⟩) | (refine ldA_f hS 1 rfl rfl ?_; (conv => whnf); exact ⟨rfl, rfl⟩) | (refine ldA_f hS 2 rfl rfl ?_; (conv => whnf); exact ⟨rfl, rfl⟩) | (refine .mk ⟨by omega, by omega⟩ ?_; refine ix_i rfl ?_; (conv => whnf); exact ⟨rfl, rfl⟩) | (refine ldN_el encS_len (hc _ hS.nil) hlt rfl rfl ?_; (conv => whnf); exact ⟨rfl, rfl⟩)))
    (conv => whnf)
    refine fc_m (rone_c p _ c xs xs[i] now _ (hR.below hS.nil) (by omega)) ?_
    rintro _ w3 ⟨rfl, hS'⟩
    replace hS := hS.call0 hS'
    (conv => whnf)
    refine as_i hS ?_
    repeat ((conv => whnf); apply q_i; focus (intro w1 hS; (conv => whnf); first | exact ⟨rfl, rfl⟩ | (refine ld_f hS 0 rfl rfl ?_; (conv => whnf); exact ⟨rfl, rfl⟩) | (refine ld_f hS 1 rfl rfl ?_; (conv => whnf); exact ⟨rfl, rfl⟩) | (refine ld_f hS 2 rfl rfl ?_; (conv => whnf); exact ⟨rfl, rfl⟩) | (refine ldA_f hS 0 rfl rfl ?_; (conv => whnf); exact ⟨rfl, rfl⟩) | (refine ldA_f hS 1 rfl rfl ?_; (conv => whnf); exact ⟨rfl, rfl⟩) | (refine ldA_f hS 2 rfl rfl ?_; (conv => whnf); exact ⟨rfl, rfl⟩)))
    repeat ((conv => whnf); first | (refine nw_f hS ?_; intro b w1 hS) | (refine ld_f hS 0 rfl rfl ?_) | (refine ld_f hS 1 rfl rfl ?_) | (refine ld_f hS 2 rfl rfl ?_) | (refine ldA_f hS 0 rfl rfl ?_) | (refine ldA_f hS 1 rfl rfl ?_) | (refine ldA_f hS 2 rfl rfl ?_) | (refine stN_f hS 0 rfl (Nat.le_of_ble_eq_true rfl) rfl rfl ?_; (conv => whnf); intro w1 hS) | (refine stN_f hS 1 rfl (Nat.le_of_ble_eq_true rfl) rfl rfl ?_; (conv => whnf); intro w1 hS) | (refine stN_f hS 2 rfl (Nat.le_of_ble_eq_true rfl) rfl rfl ?_; (conv => whnf); intro w1 hS) | (refine stM_f hS 0 rfl (Nat.le_of_ble_eq_true rfl) rfl ?_; (conv => whnf); intro w1 hS) | (refine stM_f hS 1 rfl (Nat.le_of_ble_eq_true rfl) rfl ?_; (conv => whnf); intro w1 hS) | (refine stM_f hS 2 rfl (Nat.le_of_ble_eq_true rfl) rfl ?_; (conv => whnf); intro w1 hS))
    refine app_f TB_ok elB (by simpa using hS : Sf [] w _ (Lv ++ []) _) hv (hS.rd 0 rfl) rfl (by simp [one]) (by omega) (by omega) ?_
    intro v' Lv' w6 hv' hS
    repeat ((conv => whnf); first | (refine nw_f hS ?_; intro b w1 hS) | (refine ld_f hS 0 rfl rfl ?_) | (refine ld_f hS 1 rfl rfl ?_) | (refine ld_f hS 2 rfl rfl ?_) | (refine ldA_f hS 0 rfl rfl ?_) | (refine ldA_f hS 1 rfl rfl ?_) | (refine ldA_f hS 2 rfl rfl ?_) | (refine stN_f hS 0 rfl (Nat.le_of_ble_eq_true rfl) rfl rfl ?_; (conv => whnf); intro w1 hS) | (refine stN_f hS 1 rfl (Nat.le_of_ble_eq_true rfl) rfl rfl ?_; (conv => whnf); intro w1 hS) | (refine stN_f hS 2 rfl (Nat.le_of_ble_eq_true rfl) rfl rfl ?_; (conv => whnf); intro w1 hS) | (refine stM_f hS 0 rfl (Nat.le_of_ble_eq_true rfl) rfl ?_; (conv => whnf); intro w1 hS) | (refine stM_f hS 1 rfl (Nat.le_of_ble_eq_true rfl) rfl ?_; (conv => whnf); intro w1 hS) | (refine stM_f hS 2 rfl (Nat.le_of_ble_eq_true rfl) rfl ?_; (conv => whnf); intro w1 hS))
    refine ⟨rfl, (i + 1, v'), ?_, ⟨by simp; omega, Lv', ?_, hS.subs (by simp) (by repeat (first | exact List.Sublist.refl _ | apply List.Sublist.cons_cons | apply List.Sublist.cons))⟩, by simp; omega⟩
    · rw [wi hlt (by omega)]
      rfl
    · simp only
      rw [map_take_succ _ _ _ hlt, flat_append]
      exact hv'
  · have hge : i = xs.length := by simp at hb; simp at hi; omega
    subst hge
    repeat ((conv => whnf); first | (refine nw_f hS ?_; intro b w1 hS) | (refine ld_f hS 0 rfl rfl ?_) | (refine ldA_f hS 0 rfl rfl ?_) | (refine stN_f hS 0 rfl (Nat.le_of_ble_eq_true rfl) rfl rfl ?_; (conv => whnf); intro w1 hS) | (refine stM_f hS 0 rfl (Nat.le_of_ble_eq_true rfl) rfl ?_; (conv => whnf); intro w1 hS))
    refine ⟨Lv, ?_, hS.fr (List.Sublist.refl _)⟩
    simpa using hv

theorem theirs_c (A : Option Addr) (c : Nat) (xs : List Stp) (w : World) (hR : Rd w A (flat encS xs)) (hn : xs.length ≤ 17592186044416) :
    Fc Try.prog 18 [.slice A xs.length c] w fun v w' => ∃ L, Sl 30 2 v xs.length (flat encS xs) L ∧ St [] w w' L := by
  refine fc_i TB_ok Try.func18 rfl (by kernel_rfl) ?_
  have hS := Sf.refl w
  repeat ((conv => whnf); first | (refine nw_f hS ?_; intro b w1 hS) | (refine ld_f hS 0 rfl rfl ?_) | (refine ldA_f hS 0 rfl rfl ?_) | (refine stN_f hS 0 rfl (Nat.le_of_ble_eq_true rfl) rfl rfl ?_; (conv => whnf); intro w1 hS) | (refine stM_f hS 0 rfl (Nat.le_of_ble_eq_true rfl) rfl ?_; (conv => whnf); intro w1 hS))
  refine loop_i TB_ok (fun s : Nat × Value => [(4, .int .i64 s.1), (3, s.2)]) (fun s w' => s.1 ≤ xs.length ∧ ∃ Lv, Sl 30 2 s.2 s.1 (flat encS (xs.take s.1)) Lv ∧ Sf [] w w' Lv _) (fun s => xs.length - s.1) (0, .slice none 0 0) rfl
    ⟨Nat.zero_le _, [], .nil, hS⟩ ?_
  rintro ⟨i, v⟩ us w2 ⟨hi, Lv, hv, hS⟩
  (conv => whnf)
  refine br_i (fun hb => ?_) (fun hb => ?_)
  · have hlt : i < xs.length := by simpa using hb
    obtain ⟨b, off, rfl, hc⟩ := hR.cells (flat_ne encS_len (by omega) hlt)
    repeat ((conv => whnf); first | (refine nw_f hS ?_; intro b w1 hS) | (refine ld_f hS 0 rfl rfl ?_) | (refine ldA_f hS 0 rfl rfl ?_) | (refine stN_f hS 0 rfl (Nat.le_of_ble_eq_true rfl) rfl rfl ?_; (conv => whnf); intro w1 hS) | (refine stM_f hS 0 rfl (Nat.le_of_ble_eq_true rfl) rfl ?_; (conv => whnf); intro w1 hS) | (refine .mk ⟨by omega, by omega⟩ ?_; refine ix_i rfl ?_) | (refine ldN_el encS_len (hc _ hS.nil) hlt rfl rfl ?_))
    refine app_f TB_ok elRS (by simpa using hS : Sf [] w _ (Lv ++ []) _) hv (hS.rd 0 rfl) rfl (by simp [encS, one]) (by dsimp only; omega) (by dsimp only; omega) ?_
    intro v' Lv' w6 hv' hS
    repeat ((conv => whnf); first | (refine nw_f hS ?_; intro b w1 hS) | (refine ld_f hS 0 rfl rfl ?_) | (refine ldA_f hS 0 rfl rfl ?_) | (refine stN_f hS 0 rfl (Nat.le_of_ble_eq_true rfl) rfl rfl ?_; (conv => whnf); intro w1 hS) | (refine stM_f hS 0 rfl (Nat.le_of_ble_eq_true rfl) rfl ?_; (conv => whnf); intro w1 hS))
    refine ⟨rfl, (i + 1, v'), ?_, ⟨by simp; omega, Lv', ?_, hS.subs (by simp) (by repeat (first | exact List.Sublist.refl _ | apply List.Sublist.cons_cons | apply List.Sublist.cons))⟩, by simp; omega⟩
    · rw [wi hlt (by omega)]
      rfl
    · simp only
      rw [List.take_succ_eq_append_getElem hlt, flat_append]
      simpa [flat, encS] using hv'
  · have hge : i = xs.length := by simp at hb; simp at hi; omega
    subst hge
    repeat ((conv => whnf); first | (refine nw_f hS ?_; intro b w1 hS) | (refine ld_f hS 0 rfl rfl ?_) | (refine ldA_f hS 0 rfl rfl ?_) | (refine stN_f hS 0 rfl (Nat.le_of_ble_eq_true rfl) rfl rfl ?_; (conv => whnf); intro w1 hS) | (refine stM_f hS 0 rfl (Nat.le_of_ble_eq_true rfl) rfl ?_; (conv => whnf); intro w1 hS))
    refine ⟨Lv, ?_, hS.fr (List.Sublist.refl _)⟩
    simpa using hv
end Go.RV
