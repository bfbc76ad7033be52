/- Plain laws of chapter 1: what is written is read; a beginning is torn. Conditions: none. -/
import Derived.Test.YtnkdalgkpmmkaaaV17
set_option linter.unusedVariables false
set_option linter.unusedSimpArgs false
namespace Go.RV
open Go Go.Proofs

theorem fixedR_all {l rest : List UInt8} {n : Int} (hn : n = l.length) : fixedR ⟨l ++ rest, 0⟩ n = (l, ⟨rest, 0⟩) := by
  subst hn
  cases l with
  | nil => rw [fixedR, if_pos (.inr (by simp))]; rfl
  | cons c l =>
    rw [fixedR, if_neg (by simp), if_neg (by simp; omega)]
    simp
theorem fixedR_torn {p : List UInt8} {n : Int} (hn : (p.length : Int) < n) : fixedR ⟨p, 0⟩ n = ([], ⟨[], 10⟩) := by
  rw [fixedR, if_neg (by simp; omega), if_pos (by simpa using hn)]
theorem numF_be1 {n : Int} (h : 0 ≤ n) : numF 0 (be n 1) = n % 256 := by
  simp only [be, numF, List.foldl_cons, List.foldl_nil, yI_val, Nat.mul_zero, Int.pow_zero, Int.ediv_one]
  omega
theorem numF_be2 {n : Int} (h : 0 ≤ n) : numF 0 (be n 2) = n % 65536 := by
  simp only [be, numF, List.foldl_cons, List.foldl_nil, yI_val, Nat.mul_zero, Int.pow_zero, Int.ediv_one, show (2 : Int) ^ (8 * 1) = 256 from by decide]
  omega
theorem numF_be4 {n : Int} (h : 0 ≤ n) (h1 : n ≤ 4294967295) : numF 0 (be n 4) = n := by
  simp only [be, numF, List.foldl_cons, List.foldl_nil, yI_val, Nat.mul_zero, Int.pow_zero, Int.ediv_one, show (2 : Int) ^ (8 * 1) = 256 from by decide, show (2 : Int) ^ (8 * 2) = 65536 from by decide, show (2 : Int) ^ (8 * 3) = 16777216 from by decide]
  omega
theorem textR_back {s rest : List UInt8} (hs : s.length ≤ 4294967295) : textR ⟨textD s ++ rest, 0⟩ = (s, ⟨rest, 0⟩) := by
  unfold textR textD
  rw [List.append_assoc, varR_back (by omega) (by omega)]
  exact fixedR_all rfl

/-- an item is read as it was written -/
theorem item_back (x : Itm) (hx : itmOk x) (hs : x.s.length ≤ 300) (rest : List UInt8) : rdB x ⟨itmD x ++ rest, 0⟩ = true ∧ rdS x ⟨itmD x ++ rest, 0⟩ = ⟨rest, 0⟩ := by
  obtain ⟨hk, h0, h1⟩ := hx
  unfold rdB rdS itmD
  by_cases k0 : x.kind % 6 = 0
  · simp only [if_pos k0]
    rw [fixedR_all (by rw [be_len]), numF_be1 h0]
    refine ⟨?_, rfl⟩
    rw [wrap_u8_mod, wrap_u8_mod]
    simp
  simp only [if_neg k0]
  by_cases k1 : x.kind % 6 = 1
  · simp only [if_pos k1]
    rw [fixedR_all (by rw [be_len]), numF_be2 h0]
    refine ⟨?_, rfl⟩
    rw [wrap_u16_mod, wrap_u16_mod]
    simp
  simp only [if_neg k1]
  by_cases k2 : x.kind % 6 = 2
  · simp only [if_pos k2]
    rw [fixedR_all (by rw [be_len]), numF_be4 h0 h1]
    exact ⟨by simp, rfl⟩
  simp only [if_neg k2]
  by_cases k3 : x.kind % 6 = 3
  · simp only [if_pos k3]
    rw [varR_back h0 h1]
    exact ⟨by simp, rfl⟩
  simp only [if_neg k3]
  by_cases k4 : x.kind % 6 = 4
  · simp only [if_pos k4]
    rw [fixedR_all rfl, streq_strY]
    exact ⟨by simp, rfl⟩
  simp only [if_neg k4]
  rw [textR_back (by omega), streq_strY]
  exact ⟨by simp, rfl⟩

theorem varRF_torn : ∀ (f k : Nat) (n m : Int) (p q : List UInt8), f + k = 5 → k ≤ 4 → 0 ≤ m → m * 2 ^ (7 * k) < 4294967296 → p ++ q = varF f m → q ≠ [] → varRF f k n ⟨p, 0⟩ = (0, ⟨[], 10⟩)
  | 0, k, n, m, p, q, hf, hk, _, _, _, _ => by omega
  | f+1, k, n, m, [], q, hf, hk, h0, h1, hpq, hq => varRF_nil
  | f+1, k, n, m, c :: p, q, hf, hk, h0, h1, hpq, hq => by
    rw [varF] at hpq
    split at hpq
    · rename_i hlt
      rw [List.cons_append, List.cons.injEq] at hpq
      obtain ⟨rfl, hpq⟩ := hpq
      have hc := yI_of (x := 128 + m % 128) (by omega) (by omega)
      have hk3 : k ≤ 3 := by
        rcases k5 hk with rfl | rfl | rfl | rfl | rfl <;> simp at h1 ⊢; omega
      rw [varRF_f, if_neg (by omega), if_neg (by omega)]
      refine varRF_torn f (k+1) _ (m / 128) p q (by omega) (by omega) (by omega) ?_ hpq hq
      rcases k5 hk with rfl | rfl | rfl | rfl | rfl <;> simp at h1 hk3 ⊢ <;> omega
    · have hl := congrArg List.length hpq
      have : q.length ≠ 0 := fun h => hq (List.eq_nil_of_length_eq_zero h)
      simp only [List.length_append, List.length_cons, List.length_nil] at hl
      omega
theorem varR_torn {m : Int} (h0 : 0 ≤ m) (h1 : m ≤ 4294967295) {p q : List UInt8} (h : p ++ q = varD m) (hq : q ≠ []) : varR ⟨p, 0⟩ = (0, ⟨[], 10⟩) :=
  varRF_torn 5 0 0 m p q rfl (by decide) h0 (by simp; omega) h hq
theorem len_ne {α : Type} {q : List α} (h : q ≠ []) : 0 < q.length := by
  cases q with
  | nil => exact absurd rfl h
  | cons => simp
theorem fixedR_stuck (n : Int) : fixedR ⟨[], 10⟩ n = ([], ⟨[], 10⟩) := fixedR_err (by show (10 : Int) ≠ 0; decide) n

/-- a beginning of an item is torn -/
theorem item_torn (x : Itm) (hx : itmOk x) (hs : x.s.length ≤ 300) {p q : List UInt8} (h : p ++ q = itmD x) (hq : q ≠ []) : rdS x ⟨p, 0⟩ = ⟨[], 10⟩ := by
  obtain ⟨hk, h0, h1⟩ := hx
  have hlen := congrArg List.length h
  have hq' := len_ne hq
  rw [List.length_append] at hlen
  unfold itmD at h hlen
  unfold rdS
  by_cases k0 : x.kind % 6 = 0
  · simp only [if_pos k0, be_len] at hlen ⊢
    rw [fixedR_torn (by omega)]
  simp only [if_neg k0] at h hlen ⊢
  by_cases k1 : x.kind % 6 = 1
  · simp only [if_pos k1, be_len] at hlen ⊢
    rw [fixedR_torn (by omega)]
  simp only [if_neg k1] at h hlen ⊢
  by_cases k2 : x.kind % 6 = 2
  · simp only [if_pos k2, be_len] at hlen ⊢
    rw [fixedR_torn (by omega)]
  simp only [if_neg k2] at h hlen ⊢
  by_cases k3 : x.kind % 6 = 3
  · simp only [if_pos k3] at h ⊢
    rw [varR_torn h0 h1 h hq]
  simp only [if_neg k3] at h hlen ⊢
  by_cases k4 : x.kind % 6 = 4
  · simp only [if_pos k4] at h hlen ⊢
    rw [fixedR_torn (by omega)]
  simp only [if_neg k4] at h hlen ⊢
  unfold textD at h
  unfold textR
  rcases List.append_eq_append_iff.1 h with ⟨a, ha, hb⟩ | ⟨c, hc, hd⟩
  · by_cases hae : a = []
    · subst hae
      rw [List.append_nil] at ha
      rw [← ha, show varD (x.s.length : Int) = varD (x.s.length : Int) ++ [] from by simp, varR_back (by omega) (by omega)]
      simp only [List.nil_append] at hb
      rw [← hb]
      rw [fixedR_torn (by simp; omega)]
    · rw [varR_torn (by omega) (by omega) ha.symm hae]
      rw [fixedR_stuck]
  · rw [hc, varR_back (by omega) (by omega)]
    have := congrArg List.length hd
    rw [List.length_append] at this
    rw [fixedR_torn (by omega)]
theorem item_stuck (x : Itm) : rdS x ⟨[], 10⟩ = ⟨[], 10⟩ := by
  have hv : varR ⟨[], 10⟩ = (0, ⟨[], 10⟩) := varRF_e (by show (10 : Int) ≠ 0; decide)
  unfold rdS textR
  rw [hv]
  simp only [fixedR_stuck]
  repeat' split
  all_goals rfl

def rds (l : List Itm) (s : RS) : RS := l.foldl (fun s x => rdS x s) s
theorem rds_snoc (l : List Itm) (s : RS) {i : Nat} (h : i < l.length) : rds (l.take (i + 1)) s = rdS l[i] (rds (l.take i) s) := by
  unfold rds
  rw [List.take_succ_eq_append_getElem h, List.foldl_append]
  rfl
theorem rds_stuck : ∀ (l : List Itm), rds l ⟨[], 10⟩ = ⟨[], 10⟩
  | [] => rfl
  | x :: l => by
    show rds l (rdS x ⟨[], 10⟩) = _
    rw [item_stuck, rds_stuck l]
theorem rds_torn : ∀ (l : List Itm), (∀ x ∈ l, itmOk x) → (∀ x ∈ l, x.s.length ≤ 300) → ∀ (p q : List UInt8), p ++ q = itmsD l → q ≠ [] → rds l ⟨p, 0⟩ = ⟨[], 10⟩
  | [], _, _, p, q, h, hq => by
    have h1 := congrArg List.length h
    have h2 := len_ne hq
    have h3 : (itmsD []).length = 0 := rfl
    rw [List.length_append] at h1
    omega
  | x :: l, hx, hs, p, q, h, hq => by
    have e : itmsD (x :: l) = itmD x ++ itmsD l := by simp [itmsD]
    rw [e] at h
    show rds l (rdS x ⟨p, 0⟩) = _
    have ih := rds_torn l (fun y hy => hx y (List.mem_cons_of_mem _ hy)) (fun y hy => hs y (List.mem_cons_of_mem _ hy))
    have hx0 := hx x (by simp)
    have hs0 := hs x (by simp)
    rcases List.append_eq_append_iff.1 h with ⟨a, ha, hb⟩ | ⟨c, hc, hd⟩
    · by_cases hae : a = []
      · subst hae
        rw [List.append_nil] at ha
        have h2 := (item_back x hx0 hs0 []).2
        rw [List.append_nil, ha] at h2
        rw [h2]
        exact ih [] q (by simpa using hb) hq
      · rw [item_torn x hx0 hs0 ha.symm hae]
        exact rds_stuck l
    · rw [hc, (item_back x hx0 hs0 c).2]
      exact ih c q hd.symm hq
end Go.RV
