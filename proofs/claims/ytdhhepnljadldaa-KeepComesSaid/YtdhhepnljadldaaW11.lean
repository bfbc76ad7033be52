/- The laws of chapter 9, plain: what is kept was kept, and what is kept of it. Conditions: none. -/
import Derived.Test.YtdhhepnljadldaaW8
set_option maxRecDepth 20000
set_option linter.unusedVariables false
set_option linter.unusedSimpArgs false
namespace Go.RV
open Go Go.Proofs

def Nw9 (a b : Stp) : Prop := b.tick < a.tick ∨ (a.tick = b.tick ∧ b.id < a.id)
theorem newer_iff (a b : Stp) : K9.newer a b = true ↔ Nw9 a b := by
  unfold K9.newer Nw9
  split <;> simp <;> omega
theorem exists_max : ∀ (l : List Stp), l ≠ [] → ∃ y ∈ l, ∀ z ∈ l, ¬ Nw9 z y
  | [], h => absurd rfl h
  | [x], _ => ⟨x, by simp, by intro z hz; simp at hz; subst hz; unfold Nw9; omega⟩
  | x :: y :: l, _ => by
    obtain ⟨m, hm, h⟩ := exists_max (y :: l) (by simp)
    by_cases hx : Nw9 x m
    · refine ⟨x, by simp, fun z hz => ?_⟩
      rcases List.mem_cons.1 hz with rfl | hz
      · unfold Nw9; omega
      · have := h z hz
        unfold Nw9 at *; omega
    · refine ⟨m, List.mem_cons_of_mem _ hm, fun z hz => ?_⟩
      rcases List.mem_cons.1 hz with rfl | hz
      · exact hx
      · exact h z hz
def Same (w : Int) (a b : Stp) : Prop := a.tick / w = b.tick / w
theorem alike_iff {w : Int} (hw : w = 8 ∨ w = 64) {s x : Stp} (h1 : 0 ≤ s.tick ∧ s.tick ≤ 4294967295) (h2 : 0 ≤ x.tick ∧ x.tick ≤ 4294967295) : alike w s x = true ↔ Same w x s ∧ Nw9 x s := by
  unfold alike q32 Same
  rw [Int.tdiv_eq_ediv_of_nonneg h1.1, Int.tdiv_eq_ediv_of_nonneg h2.1, Bool.and_eq_true, newer_iff, beq_iff_eq]
  rcases hw with rfl | rfl <;> simp only [wrap_u32_mod] <;> constructor <;> rintro ⟨h3, h4⟩ <;> refine ⟨by omega, h4⟩
theorem newest_iff {w : Int} (hw : w = 8 ∨ w = 64) {xs : List Stp} (hx : Ticked xs) {s : Stp} (h1 : 0 ≤ s.tick ∧ s.tick ≤ 4294967295) : newest xs s w = true ↔ ∀ x ∈ xs, Same w x s → ¬ Nw9 x s := by
  unfold newest
  rw [Bool.not_eq_true', ← Bool.not_eq_true, List.any_eq_true]
  constructor
  · intro h x hm hs hn
    exact h ⟨x, hm, (alike_iff hw h1 (hx x hm)).2 ⟨hs, hn⟩⟩
  · rintro h ⟨x, hm, ha⟩
    have := (alike_iff hw h1 (hx x hm)).1 ha
    exact h x hm this.1 this.2
theorem age_eq {s : Stp} {now : Int} (h1 : 0 ≤ s.tick ∧ s.tick ≤ 4294967295) (h2 : 0 ≤ now ∧ now ≤ 4294967295) : ageP s now = max now s.tick - s.tick := by
  unfold ageP
  exact wrap_u32 (by omega) (by omega)
/-- the newest of a bucket, ahead of which none of it is -/
theorem bucket_max {w : Int} {xs : List Stp} {s x : Stp} (hm : x ∈ xs) (hs : Same w x s) (hn : Nw9 x s) : ∃ y ∈ xs, Same w y s ∧ Nw9 y s ∧ ∀ z ∈ xs, Same w z y → ¬ Nw9 z y := by
  classical
  let l := xs.filter fun z => decide (Same w z s ∧ Nw9 z s)
  have hl : x ∈ l := List.mem_filter.2 ⟨hm, by simp [hs, hn]⟩
  obtain ⟨y, hy, h⟩ := exists_max l (List.ne_nil_of_mem hl)
  have hy' := List.mem_filter.1 hy
  have hy2 : Same w y s ∧ Nw9 y s := by simpa using hy'.2
  refine ⟨y, hy'.1, hy2.1, hy2.2, fun z hz hzs hzn => ?_⟩
  refine h z (List.mem_filter.2 ⟨hz, ?_⟩) hzn
  have h1 : Same w z s := hzs.trans hy2.1
  have h2 : Nw9 z s := by have := hy2.2; unfold Nw9 at *; omega
  simp [h1, h2]

def OldEnough (p : Pol) (xs : List Stp) (s : Stp) (a : Int) : Prop :=
  (p.kind = 0 → p.age = 0 ∨ a ≤ p.age) ∧ (p.kind = 1 → a < 8 ∨ (a < 64 ∧ ∀ x ∈ xs, Same 8 x s → ¬ Nw9 x s) ∨ (64 ≤ a ∧ a < 512 ∧ ∀ x ∈ xs, Same 64 x s → ¬ Nw9 x s))
theorem keepOne_iff (p : Pol) {xs : List Stp} (hx : Ticked xs) {s : Stp} (h1 : 0 ≤ s.tick ∧ s.tick ≤ 4294967295) (now : Int) : keepOne p xs now s = true ↔ OldEnough p xs s (ageP s now) := by
  have n8 := newest_iff (.inl rfl) hx h1
  have n64 := newest_iff (.inr rfl) hx h1
  unfold keepOne keepP OldEnough
  split
  · rename_i h0
    simp [trashP, h0]
  · rename_i h0
    split
    · rename_i hk
      have e10 : ((1 : Int) = 0) = False := by simp
      simp only [hk, e10, false_implies, true_and, stagP, forall_const]
      split
      · simp [*]
      · split
        · rw [n8]
          constructor
          · intro h; exact .inr (.inl ⟨by assumption, h⟩)
          · rintro (h | ⟨_, h⟩ | ⟨h, _⟩)
            · omega
            · exact h
            · omega
        · split
          · rw [n64]
            constructor
            · intro h; exact .inr (.inr ⟨by omega, by assumption, h⟩)
            · rintro (h | ⟨h, _⟩ | ⟨_, _, h⟩)
              · omega
              · omega
              · exact h
          · constructor
            · intro h; cases h
            · rintro (h | ⟨h, _⟩ | ⟨_, h, _⟩) <;> omega
    · rename_i hk
      simp [trashP, h0, hk]

theorem same64 {a b : Stp} (h : Same 8 a b) : Same 64 a b := by unfold Same at *; omega
theorem keep_back (p : Pol) {xs : List Stp} (hx : Ticked xs) {s : Stp} (h1 : 0 ≤ s.tick ∧ s.tick ≤ 4294967295) {m M : Int} (hm : 0 ≤ m) (hmM : m ≤ M) (hM : M ≤ 4294967295) (h : keepOne p xs M s = true) : keepOne p xs m s = true := by
  rw [keepOne_iff p hx h1] at h ⊢
  have e1 := age_eq (now := M) h1 (by omega)
  have e2 := age_eq (now := m) h1 (by omega)
  obtain ⟨h0, h1'⟩ := h
  refine ⟨fun hk => ?_, fun hk => ?_⟩
  · have := h0 hk; omega
  · rcases h1' hk with h | ⟨h, h'⟩ | ⟨h, h2, h'⟩
    · left; omega
    · by_cases h8 : ageP s m < 8
      · left; exact h8
      · right; left; exact ⟨by omega, h'⟩
    · by_cases h8 : ageP s m < 8
      · left; exact h8
      · by_cases h64 : ageP s m < 64
        · right; left; exact ⟨h64, fun x hx' hs => h' x hx' (same64 hs)⟩
        · right; right; exact ⟨by omega, by omega, h'⟩
theorem kept_sub (p : Pol) (xs : List Stp) (now : Int) : ∀ x ∈ kept p xs now, x ∈ xs := fun x h => (List.mem_filter.1 h).1
theorem kept_ticked (p : Pol) {xs : List Stp} (hx : Ticked xs) (now : Int) : Ticked (kept p xs now) := fun x h => hx x (kept_sub p xs now x h)
theorem keep_again (p : Pol) {xs : List Stp} (hx : Ticked xs) {s : Stp} (hs : s ∈ xs) {m M : Int} (hm : 0 ≤ m) (hmM : m ≤ M) (hM : M ≤ 4294967295) : keepOne p (kept p xs m) M s = keepOne p xs M s := by
  have h1 := hx s hs
  rw [Bool.eq_iff_iff, keepOne_iff p hx h1, keepOne_iff p (kept_ticked p hx m) h1]
  have e1 := age_eq (now := M) h1 (by omega)
  refine ⟨fun ⟨h0, h⟩ => ⟨h0, fun hk => ?_⟩, fun ⟨h0, h⟩ => ⟨h0, fun hk => ?_⟩⟩
  · have inEarly : ∀ y ∈ xs, Nw9 y s → (ageP s M < 512) → (∀ z ∈ xs, Same 8 z y → ¬ Nw9 z y) → (64 ≤ ageP s M → ∀ z ∈ xs, Same 64 z y → ¬ Nw9 z y) → y ∈ kept p xs m := by
      intro y hy hn ha h8 h64
      refine List.mem_filter.2 ⟨hy, ?_⟩
      have h2 := hx y hy
      rw [keepOne_iff p hx h2]
      have e2 := age_eq (now := m) h2 (by omega)
      have hle : ageP y m ≤ ageP s M := by unfold Nw9 at hn; omega
      refine ⟨fun hk0 => absurd (hk.symm.trans hk0) (by decide), fun _ => ?_⟩
      by_cases g8 : ageP y m < 8
      · left; exact g8
      · by_cases g64 : ageP y m < 64
        · right; left; exact ⟨g64, h8⟩
        · right; right; exact ⟨by omega, by omega, h64 (by omega)⟩
    rcases h hk with h | ⟨h, h'⟩ | ⟨h, h2, h'⟩
    · left; exact h
    · right; left
      refine ⟨h, fun x hxm hsx hn => ?_⟩
      obtain ⟨y, hy, hys, hyn, hmax⟩ := bucket_max hxm hsx hn
      exact h' y (inEarly y hy hyn (by omega) hmax (by omega)) hys hyn
    · right; right
      refine ⟨h, h2, fun x hxm hsx hn => ?_⟩
      obtain ⟨y, hy, hys, hyn, hmax⟩ := bucket_max hxm hsx hn
      exact h' y (inEarly y hy hyn h2 (fun z hz hzs => hmax z hz (same64 hzs)) (fun _ => hmax)) hys hyn
  · rcases h hk with h | ⟨h, h'⟩ | ⟨h, h2, h'⟩
    · left; exact h
    · right; left; exact ⟨h, fun x hxm => h' x (kept_sub p xs m x hxm)⟩
    · right; right; exact ⟨h, h2, fun x hxm => h' x (kept_sub p xs m x hxm)⟩
theorem kept_again (p : Pol) {xs : List Stp} (hx : Ticked xs) {m M : Int} (hm : 0 ≤ m) (hmM : m ≤ M) (hM : M ≤ 4294967295) : kept p (kept p xs m) M = kept p xs M := by
  show List.filter (keepOne p (kept p xs m) M) (List.filter (keepOne p xs m) xs) = List.filter (keepOne p xs M) xs
  rw [List.filter_filter]
  refine List.filter_congr fun s hs => ?_
  rw [keep_again p hx hs hm hmM hM]
  cases h : keepOne p xs M s
  · simp
  · simp [keep_back p hx (hx s hs) hm hmM hM h]
theorem kept_early (p : Pol) {xs : List Stp} (hx : Ticked xs) {m M : Int} (hm : 0 ≤ m) (hmM : m ≤ M) (hM : M ≤ 4294967295) : ∀ s ∈ kept p xs M, s ∈ kept p xs m := by
  intro s hs
  obtain ⟨h1, h2⟩ := List.mem_filter.1 hs
  exact List.mem_filter.2 ⟨h1, keep_back p hx (hx s h1) hm hmM hM h2⟩

theorem has_c (A : Option Addr) (c : Nat) (xs : List Stp) (s : Stp) (w : World) (hR : Rd w A (flat encS xs)) (hn : xs.length ≤ 4611686018427387904) :
    Fc Try.prog 23 [.slice A xs.length c, stampV s] w fun v w' => v = .bool (decide (s ∈ xs)) ∧ St [] w w' [] := by
  refine fc_i TB_ok Try.func23 rfl (by kernel_rfl) ?_
  have hS := Sf.refl w
  repeat ((conv => whnf); first | (refine nw_f hS ?_; intro b w1 hS) | (refine ld_f hS 0 rfl rfl ?_) | (refine ldA_f hS 0 rfl rfl ?_) | (refine stN_f hS 0 rfl (Nat.le_of_ble_eq_true rfl) rfl rfl ?_; (conv => whnf); intro w1 hS) | (refine stM_f hS 0 rfl (Nat.le_of_ble_eq_true rfl) rfl ?_; (conv => whnf); intro w1 hS))
  refine loop_i TB_ok (fun i : Nat => [(5, .int .i64 i)]) (fun i w' => i ≤ xs.length ∧ s ∉ xs.take i ∧ Sf [] w w' [] _) (fun i => xs.length - i) 0 rfl ⟨Nat.zero_le _, by simp, hS⟩ ?_
  rintro i us w2 ⟨hi, hno, hS⟩
  (conv => whnf)
  refine br_i (fun hb => ?_) (fun hb => ?_)
  · have hlt : i < xs.length := by simpa using hb
    obtain ⟨b, o, rfl, hc⟩ := hR.cells (flat_ne encS_len (by omega) hlt)
    repeat ((conv => whnf); first | (refine nw_f hS ?_; intro b w1 hS) | (refine ld_f hS 0 rfl rfl ?_) | (refine ldA_f hS 0 rfl rfl ?_) | (refine stN_f hS 0 rfl (Nat.le_of_ble_eq_true rfl) rfl rfl ?_; (conv => whnf); intro w1 hS) | (refine stM_f hS 0 rfl (Nat.le_of_ble_eq_true rfl) rfl ?_; (conv => whnf); intro w1 hS))
    refine drawf TB_ok rfl (by kernel_rfl) (by kernel_rfl) hS (List.Sublist.refl _) (List.Sublist.refl _) ?_
    intro w1 hS
    repeat ((conv => whnf); apply q_i; focus (intro w1 hS; (conv => whnf); first | exact ⟨rfl, rfl⟩ | (refine ld_f hS 0 rfl rfl ?_; (conv => whnf); exact ⟨rfl, rfl⟩) | (refine ldA_f hS 0 rfl rfl ?_; (conv => whnf); exact ⟨rfl, rfl⟩) | (refine .mk ⟨by omega, by omega⟩ ?_; refine ix_i rfl ?_; (conv => whnf); exact ⟨rfl, rfl⟩) | (refine ldN_el encS_len (hc _ hS.nil) hlt rfl rfl ?_; (conv => whnf); exact ⟨rfl, rfl⟩) | (refine eqStp_i xs[i] s ?_; (conv => whnf); exact ⟨rfl, rfl⟩)))
    (conv => whnf)
    refine br_i (fun hq => ?_) (fun hq => ?_)
    · repeat ((conv => whnf); first | (refine nw_f hS ?_; intro b w1 hS) | (refine ld_f hS 0 rfl rfl ?_) | (refine ldA_f hS 0 rfl rfl ?_) | (refine stN_f hS 0 rfl (Nat.le_of_ble_eq_true rfl) rfl rfl ?_; (conv => whnf); intro w1 hS) | (refine stM_f hS 0 rfl (Nat.le_of_ble_eq_true rfl) rfl ?_; (conv => whnf); intro w1 hS))
      refine ⟨?_, hS.nil⟩
      have : s ∈ xs := (of_decide_eq_true hq) ▸ List.getElem_mem hlt
      rw [decide_eq_true this]
    · repeat ((conv => whnf); first | (refine nw_f hS ?_; intro b w1 hS) | (refine ld_f hS 0 rfl rfl ?_) | (refine ldA_f hS 0 rfl rfl ?_) | (refine stN_f hS 0 rfl (Nat.le_of_ble_eq_true rfl) rfl rfl ?_; (conv => whnf); intro w1 hS) | (refine stM_f hS 0 rfl (Nat.le_of_ble_eq_true rfl) rfl ?_; (conv => whnf); intro w1 hS))
      refine ⟨rfl, i + 1, ?_, ⟨by omega, ?_, hS⟩, by omega⟩
      · rw [wi hlt hn]
        rfl
      · rw [List.take_succ_eq_append_getElem hlt, List.mem_append]
        rintro (h | h)
        · exact hno h
        · simp at h
          exact of_decide_eq_false hq h.symm
  · have hge : i = xs.length := by simp at hb; omega
    subst hge
    repeat ((conv => whnf); first | (refine nw_f hS ?_; intro b w1 hS) | (refine ld_f hS 0 rfl rfl ?_) | (refine ldA_f hS 0 rfl rfl ?_) | (refine stN_f hS 0 rfl (Nat.le_of_ble_eq_true rfl) rfl rfl ?_; (conv => whnf); intro w1 hS) | (refine stM_f hS 0 rfl (Nat.le_of_ble_eq_true rfl) rfl ?_; (conv => whnf); intro w1 hS))
    refine ⟨?_, hS.nil⟩
    rw [List.take_length] at hno
    rw [decide_eq_false hno]
end Go.RV
