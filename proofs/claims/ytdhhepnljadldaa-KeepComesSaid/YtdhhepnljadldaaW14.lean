/- The laws of chapter 9, walked: KeepComes. Conditions: none. -/
import Derived.Test.YtdhhepnljadldaaW11
set_option maxRecDepth 20000
set_option linter.unusedVariables false
set_option linter.unusedSimpArgs false
namespace Go.RV
open Go Go.Proofs

def thereP (xs : List Stp) (now : Int) : List Stp := xs.filter fun x => decide (x.tick ≤ now)
theorem comes {p : Pol} (ha : 0 ≤ p.age) {xs : List Stp} (hx : Ticked xs) {now : Int} (g : 0 ≤ now ∧ now ≤ 4294967295) (hle : ∀ x ∈ xs, x.tick ≤ now) (id : Int) : kept p (xs ++ [⟨id, now⟩]) now = kept p xs now ++ [⟨id, now⟩] := by
  have hx' : Ticked (xs ++ [⟨id, now⟩]) := by
    intro x hm
    rcases List.mem_append.1 hm with h | h
    · exact hx x h
    · simp at h; subst h; exact g
  have hnew : keepOne p (xs ++ [⟨id, now⟩]) now ⟨id, now⟩ = true := by
    rw [keepOne_iff p hx' g]
    have e := age_eq (s := ⟨id, now⟩) (now := now) g g
    have e0 : ageP ⟨id, now⟩ now = 0 := by rw [e]; simp
    rw [e0]
    exact ⟨fun _ => .inr ha, fun _ => .inl (by decide)⟩
  show List.filter (keepOne p (xs ++ [⟨id, now⟩]) now) (xs ++ [⟨id, now⟩]) = List.filter (keepOne p xs now) xs ++ [⟨id, now⟩]
  rw [List.filter_append, List.filter_cons, if_pos hnew, List.filter_nil]
  congr 1
  refine List.filter_congr fun s hs => ?_
  have h1 := hx s hs
  have e := age_eq (s := s) (now := now) h1 g
  have hl := hle s hs
  rw [Bool.eq_iff_iff, keepOne_iff p hx' h1, keepOne_iff p hx h1]
  have hmono : ∀ w : Int, (∀ x ∈ xs ++ [⟨id, now⟩], Same w x s → ¬ Nw9 x s) → ∀ x ∈ xs, Same w x s → ¬ Nw9 x s := fun w h x hm => h x (List.mem_append_left _ hm)
  refine ⟨fun ⟨h0, h⟩ => ⟨h0, fun hk => ?_⟩, fun ⟨h0, h⟩ => ⟨h0, fun hk => ?_⟩⟩
  · rcases h hk with h | ⟨h, h'⟩ | ⟨h, h2, h'⟩
    · exact .inl h
    · exact .inr (.inl ⟨h, hmono 8 h'⟩)
    · exact .inr (.inr ⟨h, h2, hmono 64 h'⟩)
  · by_cases h8 : ageP s now < 8
    · exact .inl h8
    · rcases h hk with h | ⟨h, h'⟩ | ⟨h, h2, h'⟩
      · exact .inl h
      · refine .inr (.inl ⟨h, fun x hm hsx => ?_⟩)
        rcases List.mem_append.1 hm with hm | hm
        · exact h' x hm hsx
        · simp at hm; subst hm
          unfold Same at hsx
          simp only at hsx
          exfalso; omega
      · refine .inr (.inr ⟨h, h2, fun x hm hsx => ?_⟩)
        rcases List.mem_append.1 hm with hm | hm
        · exact h' x hm hsx
        · simp at hm; subst hm
          unfold Same at hsx
          simp only at hsx
          exfalso; omega

theorem Sl.caps {e sz n c : Nat} {A : Option Addr} {cs : List Value} {L : LM} (h : Sl e sz (.slice A n c) n cs L) : n ≤ c ∧ (A = none → n = 0) := by
  cases h with
  | nil => exact ⟨Nat.le_refl _, fun _ => rfl⟩
  | blk b cap n cs cur h1 h2 h3 h4 => exact ⟨h1, fun h => by cases h⟩

theorem comes_c (p : Pol) (ha : 0 ≤ p.age) (A : Option Addr) (c : Nat) (xs : List Stp) (hx : Ticked xs) (now id : Int) (g : 0 ≤ now ∧ now ≤ 4294967295) (w : World) (hR : Rd w A (flat encS xs)) :
    Fc Try.prog 8 [polV p, .slice A xs.length c, .agg #[.int .u32 now, .int .u32 id]] w fun v w' => v = .bool true ∧ St [] w w' [] := by
  refine fc_i TB_ok Try.func8 rfl (by kernel_rfl) ?_
  have hS := Sf.refl w
  repeat ((conv => whnf); first | (refine nw_f hS ?_; intro b w1 hS) | (refine ld_f hS 0 rfl rfl ?_) | (refine ld_f hS 1 rfl rfl ?_) | (refine ldA_f hS 0 rfl rfl ?_) | (refine ldA_f hS 1 rfl rfl ?_) | (refine stN_f hS 0 rfl (Nat.le_of_ble_eq_true rfl) rfl rfl ?_; (conv => whnf); intro w1 hS) | (refine stN_f hS 1 rfl (Nat.le_of_ble_eq_true rfl) rfl rfl ?_; (conv => whnf); intro w1 hS) | (refine stM_f hS 0 rfl (Nat.le_of_ble_eq_true rfl) rfl ?_; (conv => whnf); intro w1 hS) | (refine stM_f hS 1 rfl (Nat.le_of_ble_eq_true rfl) rfl ?_; (conv => whnf); intro w1 hS))
  refine drawf TB_ok rfl (by kernel_rfl) (by kernel_rfl) hS (List.Sublist.refl _) (List.Sublist.refl _) ?_
  intro w1 hS
  repeat ((conv => whnf); apply q_i; focus (intro w1 hS; (conv => whnf); first | exact ⟨rfl, rfl⟩ | (refine ld_f hS 0 rfl rfl ?_; (conv => whnf); exact ⟨rfl, rfl⟩) | (refine ld_f hS 1 rfl rfl ?_; (conv => whnf); exact ⟨rfl, rfl⟩) | (refine ldA_f hS 0 rfl rfl ?_; (conv => whnf); exact ⟨rfl, rfl⟩) | (refine ldA_f hS 1 rfl rfl ?_; (conv => whnf); exact ⟨rfl, rfl⟩) | (refine .mk ⟨by decide, by decide⟩ ?_; (conv => whnf); exact ⟨rfl, rfl⟩)))
  repeat ((conv => whnf); first | (refine nw_f hS ?_; intro b w1 hS) | (refine ld_f hS 0 rfl rfl ?_) | (refine ld_f hS 1 rfl rfl ?_) | (refine ldA_f hS 0 rfl rfl ?_) | (refine ldA_f hS 1 rfl rfl ?_) | (refine stN_f hS 0 rfl (Nat.le_of_ble_eq_true rfl) rfl rfl ?_; (conv => whnf); intro w1 hS) | (refine stN_f hS 1 rfl (Nat.le_of_ble_eq_true rfl) rfl rfl ?_; (conv => whnf); intro w1 hS) | (refine stM_f hS 0 rfl (Nat.le_of_ble_eq_true rfl) rfl ?_; (conv => whnf); intro w1 hS) | (refine stM_f hS 1 rfl (Nat.le_of_ble_eq_true rfl) rfl ?_; (conv => whnf); intro w1 hS))
  refine br_i (fun hb => ?_) (fun hb => ?_)
  · repeat ((conv => whnf); first | (refine nw_f hS ?_; intro b w1 hS) | (refine ld_f hS 0 rfl rfl ?_) | (refine ldA_f hS 0 rfl rfl ?_) | (refine stN_f hS 0 rfl (Nat.le_of_ble_eq_true rfl) rfl rfl ?_; (conv => whnf); intro w1 hS) | (refine stM_f hS 0 rfl (Nat.le_of_ble_eq_true rfl) rfl ?_; (conv => whnf); intro w1 hS))
    refine fc_m (awake_c _) ?_
    rintro v w1 ⟨rfl, hS'⟩
    replace hS := hS.call0 hS'
    repeat ((conv => whnf); first | (refine nw_f hS ?_; intro b w1 hS) | (refine ld_f hS 0 rfl rfl ?_) | (refine ldA_f hS 0 rfl rfl ?_) | (refine stN_f hS 0 rfl (Nat.le_of_ble_eq_true rfl) rfl rfl ?_; (conv => whnf); intro w1 hS) | (refine stM_f hS 0 rfl (Nat.le_of_ble_eq_true rfl) rfl ?_; (conv => whnf); intro w1 hS))
    exact ⟨rfl, hS.nil⟩
  have hn : xs.length ≤ 100 := by simp at hb; omega
  repeat ((conv => whnf); first | (refine nw_f hS ?_; intro b w1 hS) | (refine ld_f hS 0 rfl rfl ?_) | (refine ld_f hS 1 rfl rfl ?_) | (refine ldA_f hS 0 rfl rfl ?_) | (refine ldA_f hS 1 rfl rfl ?_) | (refine stN_f hS 0 rfl (Nat.le_of_ble_eq_true rfl) rfl rfl ?_; (conv => whnf); intro w1 hS) | (refine stN_f hS 1 rfl (Nat.le_of_ble_eq_true rfl) rfl rfl ?_; (conv => whnf); intro w1 hS) | (refine stM_f hS 0 rfl (Nat.le_of_ble_eq_true rfl) rfl ?_; (conv => whnf); intro w1 hS) | (refine stM_f hS 1 rfl (Nat.le_of_ble_eq_true rfl) rfl ?_; (conv => whnf); intro w1 hS))
  refine loop_i TB_ok (fun s : Nat × Value => [(10, .int .i64 s.1), (9, s.2)]) (fun s w' => s.1 ≤ xs.length ∧ ∃ Lv, Sl 24 2 s.2 (thereP (xs.take s.1) now).length (flat encS (thereP (xs.take s.1) now)) Lv ∧ Sf [] w w' (Lv ++ []) _) (fun s => xs.length - s.1) (0, .slice none 0 0) rfl
    ⟨Nat.zero_le _, [], .nil, by simpa using hS⟩ ?_
  rintro ⟨i, v⟩ us w2 ⟨hi, Lv, hv, hS⟩
  have hle : (thereP (xs.take i) now).length ≤ i := Nat.le_trans (List.length_filter_le _ _) (by simp; omega)
  (conv => whnf)
  refine br_i (fun hb => ?_) (fun hb => ?_)
  · have hlt : i < xs.length := by simpa using hb
    have hstep := filter_take_succ (fun x : Stp => decide (x.tick ≤ now)) xs i hlt
    obtain ⟨b0, o0, rfl, hc⟩ := hR.cells (flat_ne encS_len (by omega) hlt)
    repeat ((conv => whnf); first | (refine nw_f hS ?_; intro b w1 hS) | (refine ld_f hS 0 rfl rfl ?_) | (refine ld_f hS 1 rfl rfl ?_) | (refine ldA_f hS 0 rfl rfl ?_) | (refine ldA_f hS 1 rfl rfl ?_) | (refine stN_f hS 0 rfl (Nat.le_of_ble_eq_true rfl) rfl rfl ?_; (conv => whnf); intro w1 hS) | (refine stN_f hS 1 rfl (Nat.le_of_ble_eq_true rfl) rfl rfl ?_; (conv => whnf); intro w1 hS) | (refine stM_f hS 0 rfl (Nat.le_of_ble_eq_true rfl) rfl ?_; (conv => whnf); intro w1 hS) | (refine stM_f hS 1 rfl (Nat.le_of_ble_eq_true rfl) rfl ?_; (conv => whnf); intro w1 hS) | (refine .mk ⟨by omega, by omega⟩ ?_; refine ix_i rfl ?_) | (refine ld_el encS_len (hc _ hS.nil) (k := 1) hlt (by omega) rfl (v := .int .u32 xs[i].tick) rfl ?_))
    refine br_i (fun hq => ?_) (fun hq => ?_)
    · repeat ((conv => whnf); first | (refine nw_f hS ?_; intro b w1 hS) | (refine ld_f hS 0 rfl rfl ?_) | (refine ld_f hS 1 rfl rfl ?_) | (refine ldA_f hS 0 rfl rfl ?_) | (refine ldA_f hS 1 rfl rfl ?_) | (refine stN_f hS 0 rfl (Nat.le_of_ble_eq_true rfl) rfl rfl ?_; (conv => whnf); intro w1 hS) | (refine stN_f hS 1 rfl (Nat.le_of_ble_eq_true rfl) rfl rfl ?_; (conv => whnf); intro w1 hS) | (refine stM_f hS 0 rfl (Nat.le_of_ble_eq_true rfl) rfl ?_; (conv => whnf); intro w1 hS) | (refine stM_f hS 1 rfl (Nat.le_of_ble_eq_true rfl) rfl ?_; (conv => whnf); intro w1 hS) | (refine .mk ⟨by omega, by omega⟩ ?_; refine ix_i rfl ?_) | (refine ldN_el encS_len (hc _ hS.nil) hlt rfl rfl ?_))
      refine app_f TB_ok elS hS hv (hS.rd 0 rfl) rfl (by simp [encS, one]) (by dsimp only; omega) (by dsimp only; omega) ?_
      intro v' Lv' w6 hv' hS
      repeat ((conv => whnf); first | (refine nw_f hS ?_; intro b w1 hS) | (refine ld_f hS 0 rfl rfl ?_) | (refine ld_f hS 1 rfl rfl ?_) | (refine ldA_f hS 0 rfl rfl ?_) | (refine ldA_f hS 1 rfl rfl ?_) | (refine stN_f hS 0 rfl (Nat.le_of_ble_eq_true rfl) rfl rfl ?_; (conv => whnf); intro w1 hS) | (refine stN_f hS 1 rfl (Nat.le_of_ble_eq_true rfl) rfl rfl ?_; (conv => whnf); intro w1 hS) | (refine stM_f hS 0 rfl (Nat.le_of_ble_eq_true rfl) rfl ?_; (conv => whnf); intro w1 hS) | (refine stM_f hS 1 rfl (Nat.le_of_ble_eq_true rfl) rfl ?_; (conv => whnf); intro w1 hS))
      refine ⟨rfl, (i + 1, v'), ?_, ⟨by simp; omega, Lv', ?_, hS.subs (List.Sublist.refl _) (by repeat (first | exact List.Sublist.refl _ | apply List.Sublist.cons_cons | apply List.Sublist.cons))⟩, by simp; omega⟩
      · rw [wi hlt (by omega)]
        rfl
      · simp only [thereP]
        rw [hstep, hq, if_pos rfl, flat_append, List.length_append]
        exact hv'
    · repeat ((conv => whnf); first | (refine nw_f hS ?_; intro b w1 hS) | (refine ld_f hS 0 rfl rfl ?_) | (refine ld_f hS 1 rfl rfl ?_) | (refine ldA_f hS 0 rfl rfl ?_) | (refine ldA_f hS 1 rfl rfl ?_) | (refine stN_f hS 0 rfl (Nat.le_of_ble_eq_true rfl) rfl rfl ?_; (conv => whnf); intro w1 hS) | (refine stN_f hS 1 rfl (Nat.le_of_ble_eq_true rfl) rfl rfl ?_; (conv => whnf); intro w1 hS) | (refine stM_f hS 0 rfl (Nat.le_of_ble_eq_true rfl) rfl ?_; (conv => whnf); intro w1 hS) | (refine stM_f hS 1 rfl (Nat.le_of_ble_eq_true rfl) rfl ?_; (conv => whnf); intro w1 hS))
      refine ⟨rfl, (i + 1, v), ?_, ⟨by simp; omega, Lv, ?_, hS⟩, by simp; omega⟩
      · rw [wi hlt (by omega)]
        rfl
      · simp only [thereP]
        rw [hstep, hq]
        simpa [thereP] using hv
  · have hge : i = xs.length := by simp at hb; simp at hi; omega
    subst hge
    simp only [List.take_length] at hv hle
    have hth : Ticked (thereP xs now) := fun x hm => hx x (List.mem_filter.1 hm).1
    have htl : ∀ x ∈ thereP xs now, x.tick ≤ now := fun x hm => of_decide_eq_true (List.mem_filter.1 hm).2
    generalize thereP xs now = ts at *
    have hcm := comes ha hth g htl id
    have hlk : (kept p ts now).length ≤ ts.length := List.length_filter_le _ _
    obtain ⟨Av, cv, rfl, hv⟩ := hv.open
    have hcap := hv.caps
    repeat ((conv => whnf); first | (refine nw_f hS ?_; intro b w1 hS) | (refine ld_f hS 0 rfl rfl ?_) | (refine ld_f hS 1 rfl rfl ?_) | (refine ldA_f hS 0 rfl rfl ?_) | (refine ldA_f hS 1 rfl rfl ?_) | (refine stN_f hS 0 rfl (Nat.le_of_ble_eq_true rfl) rfl rfl ?_; (conv => whnf); intro w1 hS) | (refine stN_f hS 1 rfl (Nat.le_of_ble_eq_true rfl) rfl rfl ?_; (conv => whnf); intro w1 hS) | (refine stM_f hS 0 rfl (Nat.le_of_ble_eq_true rfl) rfl ?_; (conv => whnf); intro w1 hS) | (refine stM_f hS 1 rfl (Nat.le_of_ble_eq_true rfl) rfl ?_; (conv => whnf); intro w1 hS))
    have mv : ∀ x ∈ Lv, x ∈ Lv ++ [] := fun x hx => by simp [hx]
    refine fc_m (kept_c p Av cv ts now _ (hv.rdM hS mv) (by omega)) ?_
    rintro v w1 ⟨L1, h1, hS'⟩
    replace hS := hS.callF hS'
    obtain ⟨A1, c1, rfl, h1⟩ := h1.open
    repeat ((conv => whnf); first | (refine nw_f hS ?_; intro b w1 hS) | (refine ld_f hS 0 rfl rfl ?_) | (refine ld_f hS 1 rfl rfl ?_) | (refine ldA_f hS 0 rfl rfl ?_) | (refine ldA_f hS 1 rfl rfl ?_) | (refine stN_f hS 0 rfl (Nat.le_of_ble_eq_true rfl) rfl rfl ?_; (conv => whnf); intro w1 hS) | (refine stN_f hS 1 rfl (Nat.le_of_ble_eq_true rfl) rfl rfl ?_; (conv => whnf); intro w1 hS) | (refine stM_f hS 0 rfl (Nat.le_of_ble_eq_true rfl) rfl ?_; (conv => whnf); intro w1 hS) | (refine stM_f hS 1 rfl (Nat.le_of_ble_eq_true rfl) rfl ?_; (conv => whnf); intro w1 hS))
    refine drawf TB_ok rfl (by kernel_rfl) (by kernel_rfl) hS (List.Sublist.refl _) (List.Sublist.refl _) ?_
    intro w1 hS
    repeat ((conv => whnf); apply q_i; focus (intro w1 hS; (conv => whnf); first | exact ⟨rfl, rfl⟩ | (refine ld_f hS 0 rfl rfl ?_; (conv => whnf); exact ⟨rfl, rfl⟩) | (refine ld_f hS 1 rfl rfl ?_; (conv => whnf); exact ⟨rfl, rfl⟩) | (refine ldA_f hS 0 rfl rfl ?_; (conv => whnf); exact ⟨rfl, rfl⟩) | (refine ldA_f hS 1 rfl rfl ?_; (conv => whnf); exact ⟨rfl, rfl⟩) | (refine .mk ⟨by omega, by omega⟩ ?_; (conv => whnf); refine .mk ⟨by omega, by omega⟩ ?_; (conv => whnf); exact ⟨rfl, rfl⟩)))
    (conv => whnf)
    refine nw_f hS ?_
    intro bs w5 hS
    (conv => whnf)
    refine as_i (hS.subs (List.Sublist.refl _) (by repeat (first | exact List.Sublist.refl _ | apply List.Sublist.cons_cons | apply List.Sublist.cons))) ?_
    (conv => whnf)
    have mv' : ∀ x ∈ Lv, x ∈ L1 ++ (Lv ++ []) := fun x hx => by simp [hx]
    refine appNew_f TB_ok elS hS (hv.rdM hS mv') (by rw [flat_length encS_len]) (fun h => ⟨hcap.2 h, hcap.2 h⟩) (hS.rd 0 rfl) rfl (by decide) (by omega) (by omega) (by omega) ?_
    intro v' Lv' w6 hv' hS
    (conv => whnf)
    refine as_i (hS.subs (by simp) (by repeat (first | exact List.Sublist.refl _ | apply List.Sublist.cons_cons | apply List.Sublist.cons))) ?_
    repeat ((conv => whnf); apply q_i; focus (intro w1 hS; (conv => whnf); first | exact ⟨rfl, rfl⟩ | (refine ld_f hS 0 rfl rfl ?_; (conv => whnf); exact ⟨rfl, rfl⟩) | (refine ld_f hS 1 rfl rfl ?_; (conv => whnf); exact ⟨rfl, rfl⟩) | (refine ld_f hS 2 rfl rfl ?_; (conv => whnf); exact ⟨rfl, rfl⟩) | (refine ldA_f hS 0 rfl rfl ?_; (conv => whnf); exact ⟨rfl, rfl⟩) | (refine ldA_f hS 1 rfl rfl ?_; (conv => whnf); exact ⟨rfl, rfl⟩) | (refine ldA_f hS 2 rfl rfl ?_; (conv => whnf); exact ⟨rfl, rfl⟩)))
    (conv => whnf)
    obtain ⟨A2, c2, rfl, hv'⟩ := hv'.open
    have e1 : flat encS (ts ++ [⟨id, now⟩]) = flat encS ts ++ [.int .u32 id, .int .u32 now] := by rw [flat_append]; rfl
    have e2 : (ts ++ [(⟨id, now⟩ : Stp)]).length = ts.length + 1 := by simp
    have hR2 : Rd w6 A2 (flat encS (ts ++ [⟨id, now⟩])) := by rw [e1]; exact hv'.rdM hS (fun x hx => by simp [hx])
    have K := kept_c p A2 c2 (ts ++ [⟨id, now⟩]) now w6 hR2 (by omega)
    rw [e2, hcm] at K
    refine fc_m K ?_
    clear K
    rintro v w1 ⟨L2, h2, hS'⟩
    replace hS := hS.callF hS'
    obtain ⟨A3, c3, rfl, h2⟩ := h2.open
    have e3 : (kept p ts now ++ [(⟨id, now⟩ : Stp)]).length = (kept p ts now).length + 1 := by simp
    rw [e3] at h2 ⊢
    (conv => whnf)
    refine as_i (hS.subs (by simp) (by repeat (first | exact List.Sublist.refl _ | apply List.Sublist.cons_cons | apply List.Sublist.cons))) ?_
    repeat ((conv => whnf); apply q_i; focus (intro w1 hS; (conv => whnf); first | exact ⟨rfl, rfl⟩ | (refine ld_f hS 0 rfl rfl ?_; (conv => whnf); exact ⟨rfl, rfl⟩) | (refine ld_f hS 1 rfl rfl ?_; (conv => whnf); exact ⟨rfl, rfl⟩) | (refine ld_f hS 2 rfl rfl ?_; (conv => whnf); exact ⟨rfl, rfl⟩) | (refine ldA_f hS 0 rfl rfl ?_; (conv => whnf); exact ⟨rfl, rfl⟩) | (refine ldA_f hS 1 rfl rfl ?_; (conv => whnf); exact ⟨rfl, rfl⟩) | (refine ldA_f hS 2 rfl rfl ?_; (conv => whnf); exact ⟨rfl, rfl⟩)))
    repeat ((conv => whnf); first | (refine nw_f hS ?_; intro b w1 hS) | (refine ld_f hS 0 rfl rfl ?_) | (refine ld_f hS 1 rfl rfl ?_) | (refine ld_f hS 2 rfl rfl ?_) | (refine ldA_f hS 0 rfl rfl ?_) | (refine ldA_f hS 1 rfl rfl ?_) | (refine ldA_f hS 2 rfl rfl ?_) | (refine stN_f hS 0 rfl (Nat.le_of_ble_eq_true rfl) rfl rfl ?_; (conv => whnf); intro w1 hS) | (refine stN_f hS 1 rfl (Nat.le_of_ble_eq_true rfl) rfl rfl ?_; (conv => whnf); intro w1 hS) | (refine stN_f hS 2 rfl (Nat.le_of_ble_eq_true rfl) rfl rfl ?_; (conv => whnf); intro w1 hS) | (refine stM_f hS 0 rfl (Nat.le_of_ble_eq_true rfl) rfl ?_; (conv => whnf); intro w1 hS) | (refine stM_f hS 1 rfl (Nat.le_of_ble_eq_true rfl) rfl ?_; (conv => whnf); intro w1 hS) | (refine stM_f hS 2 rfl (Nat.le_of_ble_eq_true rfl) rfl ?_; (conv => whnf); intro w1 hS))
    refine br_i (fun hb => absurd hb ?_) (fun _ => ?_)
    · rw [wrap_i64 (by omega) (by omega)]; simp
    repeat ((conv => whnf); first | (refine nw_f hS ?_; intro b w1 hS) | (refine ld_f hS 0 rfl rfl ?_) | (refine ld_f hS 1 rfl rfl ?_) | (refine ld_f hS 2 rfl rfl ?_) | (refine ldA_f hS 0 rfl rfl ?_) | (refine ldA_f hS 1 rfl rfl ?_) | (refine ldA_f hS 2 rfl rfl ?_) | (refine stN_f hS 0 rfl (Nat.le_of_ble_eq_true rfl) rfl rfl ?_; (conv => whnf); intro w1 hS) | (refine stN_f hS 1 rfl (Nat.le_of_ble_eq_true rfl) rfl rfl ?_; (conv => whnf); intro w1 hS) | (refine stN_f hS 2 rfl (Nat.le_of_ble_eq_true rfl) rfl rfl ?_; (conv => whnf); intro w1 hS) | (refine stM_f hS 0 rfl (Nat.le_of_ble_eq_true rfl) rfl ?_; (conv => whnf); intro w1 hS) | (refine stM_f hS 1 rfl (Nat.le_of_ble_eq_true rfl) rfl ?_; (conv => whnf); intro w1 hS) | (refine stM_f hS 2 rfl (Nat.le_of_ble_eq_true rfl) rfl ?_; (conv => whnf); intro w1 hS))
    have m1 : ∀ x ∈ L1, x ∈ L2 ++ (Lv' ++ (L1 ++ (Lv ++ []))) := fun x hx => by simp [hx]
    have m2 : ∀ x ∈ L2, x ∈ L2 ++ (Lv' ++ (L1 ++ (Lv ++ []))) := fun x hx => by simp [hx]
    refine loop_i TB_ok (fun i : Nat => [(13, .int .i64 i)]) (fun i w' => i ≤ (kept p ts now).length ∧ Sf [] w w' (L2 ++ (Lv' ++ (L1 ++ (Lv ++ [])))) _) (fun i => (kept p ts now).length - i) 0 rfl ⟨Nat.zero_le _, hS⟩ ?_
    rintro i us w7 ⟨hi, hS⟩
    (conv => whnf)
    refine br_i (fun hb => ?_) (fun hb => ?_)
    · have hlt : i < (kept p ts now).length := by simpa using hb
      have hlt2 : i < (kept p ts now ++ [(⟨id, now⟩ : Stp)]).length := by omega
      have heq : (kept p ts now ++ [(⟨id, now⟩ : Stp)])[i] = (kept p ts now)[i] := List.getElem_append_left hlt
      obtain ⟨b1, o1, rfl⟩ := (h1.rdM hS m1).form (flat_ne encS_len (by omega) hlt)
      obtain ⟨b2, o2, rfl⟩ := (h2.rdM hS m2).form (flat_ne encS_len (by omega) hlt2)
      repeat ((conv => whnf); first | (refine nw_f hS ?_; intro b w1 hS) | (refine ld_f hS 0 rfl rfl ?_) | (refine ld_f hS 1 rfl rfl ?_) | (refine ld_f hS 2 rfl rfl ?_) | (refine ldA_f hS 0 rfl rfl ?_) | (refine ldA_f hS 1 rfl rfl ?_) | (refine ldA_f hS 2 rfl rfl ?_) | (refine stN_f hS 0 rfl (Nat.le_of_ble_eq_true rfl) rfl rfl ?_; (conv => whnf); intro w1 hS) | (refine stN_f hS 1 rfl (Nat.le_of_ble_eq_true rfl) rfl rfl ?_; (conv => whnf); intro w1 hS) | (refine stN_f hS 2 rfl (Nat.le_of_ble_eq_true rfl) rfl rfl ?_; (conv => whnf); intro w1 hS) | (refine stM_f hS 0 rfl (Nat.le_of_ble_eq_true rfl) rfl ?_; (conv => whnf); intro w1 hS) | (refine stM_f hS 1 rfl (Nat.le_of_ble_eq_true rfl) rfl ?_; (conv => whnf); intro w1 hS) | (refine stM_f hS 2 rfl (Nat.le_of_ble_eq_true rfl) rfl ?_; (conv => whnf); intro w1 hS))
      refine drawf TB_ok rfl (by kernel_rfl) (by kernel_rfl) hS (List.Sublist.refl _) (List.Sublist.refl _) ?_
      intro w1 hS
      repeat ((conv => whnf); apply q_i; focus (intro w1 hS; (conv => whnf); first | exact ⟨rfl, rfl⟩ | (refine ld_f hS 0 rfl rfl ?_; (conv => whnf); exact ⟨rfl, rfl⟩) | (refine ld_f hS 1 rfl rfl ?_; (conv => whnf); exact ⟨rfl, rfl⟩) | (refine ld_f hS 2 rfl rfl ?_; (conv => whnf); exact ⟨rfl, rfl⟩) | (refine ldA_f hS 0 rfl rfl ?_; (conv => whnf); exact ⟨rfl, rfl⟩) | (refine ldA_f hS 1 rfl rfl ?_; (conv => whnf); exact ⟨rfl, rfl⟩) | (refine ldA_f hS 2 rfl rfl ?_; (conv => whnf); exact ⟨rfl, rfl⟩) | (refine .mk ⟨by omega, by omega⟩ ?_; refine ix_i rfl ?_; (conv => whnf); exact ⟨rfl, rfl⟩) | (refine ldN_el encS_len (h1.rdM hS m1).at hlt rfl rfl ?_; (conv => whnf); exact ⟨rfl, rfl⟩) | (refine ldN_el encS_len (h2.rdM hS m2).at hlt2 rfl rfl ?_; (conv => whnf); exact ⟨rfl, rfl⟩) | (refine neStp_i (kept p ts now)[i] (kept p ts now ++ [(⟨id, now⟩ : Stp)])[i] ?_; (conv => whnf); exact ⟨rfl, rfl⟩)))
      (conv => whnf)
      refine br_i (fun hb => absurd hb (by simp [heq])) (fun _ => ?_)
      repeat ((conv => whnf); first | (refine nw_f hS ?_; intro b w1 hS) | (refine ld_f hS 0 rfl rfl ?_) | (refine ld_f hS 1 rfl rfl ?_) | (refine ld_f hS 2 rfl rfl ?_) | (refine ldA_f hS 0 rfl rfl ?_) | (refine ldA_f hS 1 rfl rfl ?_) | (refine ldA_f hS 2 rfl rfl ?_) | (refine stN_f hS 0 rfl (Nat.le_of_ble_eq_true rfl) rfl rfl ?_; (conv => whnf); intro w1 hS) | (refine stN_f hS 1 rfl (Nat.le_of_ble_eq_true rfl) rfl rfl ?_; (conv => whnf); intro w1 hS) | (refine stN_f hS 2 rfl (Nat.le_of_ble_eq_true rfl) rfl rfl ?_; (conv => whnf); intro w1 hS) | (refine stM_f hS 0 rfl (Nat.le_of_ble_eq_true rfl) rfl ?_; (conv => whnf); intro w1 hS) | (refine stM_f hS 1 rfl (Nat.le_of_ble_eq_true rfl) rfl ?_; (conv => whnf); intro w1 hS) | (refine stM_f hS 2 rfl (Nat.le_of_ble_eq_true rfl) rfl ?_; (conv => whnf); intro w1 hS))
      refine ⟨rfl, i + 1, ?_, ⟨by omega, hS⟩, by omega⟩
      rw [wi hlt (by omega)]
      rfl
    · have hlt2 : (kept p ts now).length < (kept p ts now ++ [(⟨id, now⟩ : Stp)]).length := by omega
      have heq : (kept p ts now ++ [(⟨id, now⟩ : Stp)])[(kept p ts now).length] = ⟨id, now⟩ := by simp
      obtain ⟨b2, o2, rfl⟩ := (h2.rdM hS m2).form (flat_ne encS_len (by omega) hlt2)
      repeat ((conv => whnf); first | (refine nw_f hS ?_; intro b w1 hS) | (refine ld_f hS 0 rfl rfl ?_) | (refine ld_f hS 1 rfl rfl ?_) | (refine ld_f hS 2 rfl rfl ?_) | (refine ldA_f hS 0 rfl rfl ?_) | (refine ldA_f hS 1 rfl rfl ?_) | (refine ldA_f hS 2 rfl rfl ?_) | (refine stN_f hS 0 rfl (Nat.le_of_ble_eq_true rfl) rfl rfl ?_; (conv => whnf); intro w1 hS) | (refine stN_f hS 1 rfl (Nat.le_of_ble_eq_true rfl) rfl rfl ?_; (conv => whnf); intro w1 hS) | (refine stN_f hS 2 rfl (Nat.le_of_ble_eq_true rfl) rfl rfl ?_; (conv => whnf); intro w1 hS) | (refine stM_f hS 0 rfl (Nat.le_of_ble_eq_true rfl) rfl ?_; (conv => whnf); intro w1 hS) | (refine stM_f hS 1 rfl (Nat.le_of_ble_eq_true rfl) rfl ?_; (conv => whnf); intro w1 hS) | (refine stM_f hS 2 rfl (Nat.le_of_ble_eq_true rfl) rfl ?_; (conv => whnf); intro w1 hS) | (refine .mk ⟨by omega, by omega⟩ ?_; refine ix_i rfl ?_) | (refine ldN_el encS_len (h2.rdM hS m2).at hlt2 rfl rfl ?_) | (refine eqStp_i (kept p ts now ++ [(⟨id, now⟩ : Stp)])[(kept p ts now).length] ⟨id, now⟩ ?_))
      refine br_i (fun _ => ?_) (fun hb => absurd hb (by simp [heq]))
      repeat ((conv => whnf); first | (refine nw_f hS ?_; intro b w1 hS) | (refine ld_f hS 0 rfl rfl ?_) | (refine ld_f hS 1 rfl rfl ?_) | (refine ld_f hS 2 rfl rfl ?_) | (refine ldA_f hS 0 rfl rfl ?_) | (refine ldA_f hS 1 rfl rfl ?_) | (refine ldA_f hS 2 rfl rfl ?_) | (refine stN_f hS 0 rfl (Nat.le_of_ble_eq_true rfl) rfl rfl ?_; (conv => whnf); intro w1 hS) | (refine stN_f hS 1 rfl (Nat.le_of_ble_eq_true rfl) rfl rfl ?_; (conv => whnf); intro w1 hS) | (refine stN_f hS 2 rfl (Nat.le_of_ble_eq_true rfl) rfl rfl ?_; (conv => whnf); intro w1 hS) | (refine stM_f hS 0 rfl (Nat.le_of_ble_eq_true rfl) rfl ?_; (conv => whnf); intro w1 hS) | (refine stM_f hS 1 rfl (Nat.le_of_ble_eq_true rfl) rfl ?_; (conv => whnf); intro w1 hS) | (refine stM_f hS 2 rfl (Nat.le_of_ble_eq_true rfl) rfl ?_; (conv => whnf); intro w1 hS))
      refine fc_m (awake_c _) ?_
      rintro v w1 ⟨rfl, hS'⟩
      replace hS := hS.call0 hS'
      repeat ((conv => whnf); first | (refine nw_f hS ?_; intro b w1 hS) | (refine ld_f hS 0 rfl rfl ?_) | (refine ldA_f hS 0 rfl rfl ?_) | (refine stN_f hS 0 rfl (Nat.le_of_ble_eq_true rfl) rfl rfl ?_; (conv => whnf); intro w1 hS) | (refine stM_f hS 0 rfl (Nat.le_of_ble_eq_true rfl) rfl ?_; (conv => whnf); intro w1 hS))
      exact ⟨rfl, hS.nil⟩
end Go.RV
