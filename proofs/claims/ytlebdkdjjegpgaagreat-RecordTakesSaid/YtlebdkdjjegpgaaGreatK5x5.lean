/- Texts of mine, packed for a claim (bundle.py). Conditions: none. -/
import Derived.Test.YtlebdkdjjegpgaaGreatK5x4
import Derived.RecoverIn
set_option maxRecDepth 20000
set_option linter.unusedVariables false
set_option linter.unusedSimpArgs false
namespace Go.RV
open Go Go.Proofs Go.RowKit

theorem mayR1 {x : Rx} (hk : x.k = 1) : mayR x = decide (x.r < 8) := by
  unfold mayR
  rw [if_pos hk]
theorem restT1 {x : Rx} (hk : x.k = 1) : restT x = be x.r 1 := by
  unfold restT
  rw [if_pos hk]
theorem mayR2 {x : Rx} (hk : x.k = 2) : mayR x = (decide (x.n0 ≤ 1073741824) && (decide (0 < x.n1) && decide (0 < x.n2))) := by
  unfold mayR
  rw [if_neg (by omega), if_pos hk]
theorem restT2 {x : Rx} (hk : x.k = 2) : restT x = be x.n0 4 ++ be x.n1 4 ++ be x.n2 4 := by
  unfold restT
  rw [if_neg (by omega), if_pos hk]
theorem mayR3 {x : Rx} (hk : x.k = 3) : mayR x = (decide (x.rk ≤ 1) && inB x.rq 0 1073741824) := by
  unfold mayR
  rw [if_neg (by omega), if_neg (by omega), if_pos hk]
theorem restT3 {x : Rx} (hk : x.k = 3) : restT x = be x.rk 1 ++ be x.ra 4 ++ be x.rq 4 := by
  unfold restT
  rw [if_neg (by omega), if_neg (by omega), if_pos hk]
theorem mayR4 {x : Rx} (hk : x.k = 4) : mayR x = (namedB x.p && regB x.f x.xs) := by
  unfold mayR
  rw [if_neg (by omega), if_neg (by omega), if_neg (by omega), if_pos hk]
theorem restT4 {x : Rx} (hk : x.k = 4) : restT x = pathT x.p ++ ctxT x.f ++ be x.xs.length 1 ++ sbsT x.xs := by
  unfold restT
  rw [if_neg (by omega), if_neg (by omega), if_neg (by omega), if_pos hk]
theorem mayR5 {x : Rx} (hk : x.k = 5) : mayR x = (namedB x.p && verB x.vi x.vt x.vc x.v) := by
  unfold mayR
  rw [if_neg (by omega), if_neg (by omega), if_neg (by omega), if_neg (by omega), if_pos hk]
theorem restT5 {x : Rx} (hk : x.k = 5) : restT x = pathT x.p ++ be x.vi 4 ++ be x.vt 4 ++ be x.vc 1 ++ vaT x.v := by
  unfold restT
  rw [if_neg (by omega), if_neg (by omega), if_neg (by omega), if_neg (by omega), if_pos hk]
theorem mayR6 {x : Rx} (hk : x.k = 6) : mayR x = decide (0 < x.vi) := by
  unfold mayR
  rw [if_neg (by omega), if_neg (by omega), if_neg (by omega), if_neg (by omega), if_neg (by omega), if_pos hk]
theorem restT6 {x : Rx} (hk : x.k = 6) : restT x = be x.vi 4 := by
  unfold restT
  rw [if_neg (by omega), if_neg (by omega), if_neg (by omega), if_neg (by omega), if_neg (by omega), if_pos hk]
theorem mayR7 {x : Rx} (hk : x.k = 7) : mayR x = chunkB x.ci x.cb x.cr x.cs := by
  unfold mayR
  rw [if_neg (by omega), if_neg (by omega), if_neg (by omega), if_neg (by omega), if_neg (by omega), if_neg (by omega), if_pos hk]
theorem restT7 {x : Rx} (hk : x.k = 7) : restT x = be x.ci 4 ++ be x.cb 2 ++ be x.cr 2 ++ be x.cs 1 := by
  unfold restT
  rw [if_neg (by omega), if_neg (by omega), if_neg (by omega), if_neg (by omega), if_neg (by omega), if_neg (by omega), if_pos hk]
theorem mayR8 {x : Rx} (hk : x.k = 8) : mayR x = (decide (x.r < 8) && (namedB x.p && mayVB x.g)) := by
  unfold mayR
  rw [if_neg (by omega), if_neg (by omega), if_neg (by omega), if_neg (by omega), if_neg (by omega), if_neg (by omega), if_neg (by omega), if_pos hk]
theorem restT8 {x : Rx} (hk : x.k = 8) : restT x = be x.r 1 ++ pathT x.p ++ ctxT x.g := by
  unfold restT
  rw [if_neg (by omega), if_neg (by omega), if_neg (by omega), if_neg (by omega), if_neg (by omega), if_neg (by omega), if_neg (by omega), if_pos hk]
theorem checkR_may {x : Rx} (h : checkR x = true) : mayR x = true := by
  unfold checkR at h
  exact (Bool.and_eq_true _ _ ▸ h).1
theorem checkR_kinds {x : Rx} (h : checkR x = true) : x.k = 1 ∨ x.k = 2 ∨ x.k = 3 ∨ x.k = 4 ∨ x.k = 5 ∨ x.k = 6 ∨ x.k = 7 ∨ x.k = 8 := by
  have hm := checkR_may h
  rcases kinds x.k with hk | hk | hk | hk | hk | hk | hk | hk | hk
  all_goals first
    | omega
    | (rw [mayR9 hk] at hm; cases hm)
theorem inB_iff {n a c : Int} : inB n a c = true ↔ a ≤ n ∧ n ≤ c := by unfold inB; simp
theorem chunkB_in {a q c d : Int} (h : chunkB a q c d = true) : (0 ≤ q ∧ q ≤ 2047) ∧ (0 ≤ c ∧ c ≤ 65535) ∧ (0 ≤ d ∧ d ≤ 64) := by
  unfold chunkB at h
  split at h
  · simp at h
    omega
  · simp only [Bool.and_eq_true, inB_iff] at h
    omega
theorem regB_parts {f : Nat → Int} {xs : List Sv} (h : regB f xs = true) : mayVB f = true ∧ xs.length ≤ 8 ∧ ∀ s ∈ xs, hasB f s.r s.n = true ∧ okV s.v = true := by
  unfold regB checkS at h
  rw [Bool.and_eq_true, List.all_eq_true] at h
  obtain ⟨h1, h2, h3⟩ := checkC_parts h.1
  rw [List.length_map] at h2
  exact ⟨h1, h2, fun s hs => ⟨h3 (dotC s) (List.mem_map_of_mem hs), h.2 s hs⟩⟩
theorem recT_len {x : Rx} (h : checkR x = true) : (recT x).length ≤ 300 := by
  have hm := checkR_may h
  have hpl : namedB x.p = true → (pathT x.p).length ≤ 37 := fun hp => by
    have := namedB_len hp
    unfold pathT
    rw [List.length_append, be_len]
    omega
  have hf := ctxT_len x.f
  have hg := ctxT_len x.g
  unfold recT
  rw [List.length_append, be_len]
  rcases checkR_kinds h with hk | hk | hk | hk | hk | hk | hk | hk
  · rw [restT1 hk]; simp [be_len]
  · rw [restT2 hk]; simp [be_len]
  · rw [restT3 hk]; simp [be_len]
  · rw [restT4 hk]
    rw [mayR4 hk, Bool.and_eq_true] at hm
    have h1 := hpl hm.1
    obtain ⟨_, h2, h3⟩ := regB_parts hm.2
    have h4 := sbsT_len x.xs (fun s hs => (h3 s hs).2)
    simp only [List.length_append, be_len]
    omega
  · rw [restT5 hk]
    rw [mayR5 hk, Bool.and_eq_true] at hm
    have h1 := hpl hm.1
    have h2 : okV x.v = true := by have := hm.2; unfold verB at this; simp only [Bool.and_eq_true] at this; exact this.2.2.2.2
    have h3 := valT_len h2
    simp only [List.length_append, be_len]
    omega
  · rw [restT6 hk]; simp [be_len]
  · rw [restT7 hk]; simp [be_len]
  · rw [restT8 hk]
    rw [mayR8 hk, Bool.and_eq_true, Bool.and_eq_true] at hm
    have h1 := hpl hm.2.1
    simp only [List.length_append, be_len]
    omega
theorem idx3 {a q c : Int} {i : Nat} (hi : i < 3) {w : World} {K : Value → World → Prop} (k : K (.int .u32 (l3 a q c i)) w) :
    SemN Tryz.prog (Instr.index 33 (arr3 a q c) (.int .i64 (i : Int))) w K := by
  refine ⟨SemW.of_run (a := .int .u32 (l3 a q c i)) (w' := w) ?_ k⟩
  unfold Instr.index arr3
  have hp : (part 32 #[Value.int .u32 a, .int .u32 q, .int .u32 c] (i * 1)).run Tryz.prog w = .ok (.int .u32 (l3 a q c i)) w := part_plain ⟨_, Tryz.underlying32, by simp, by simp⟩ (by
    rw [Nat.mul_one]
    rcases (show i = 0 ∨ i = 1 ∨ i = 2 by omega) with rfl | rfl | rfl <;> rfl)
  have hlt : 0 ≤ (i : Int) ∧ (i : Int) < ((3 : Nat) : Int) := by omega
  simp only [Sem.run_bind, asIntOf, Sem.run_pure, Result.andThen_ok, run_underlying Tryz.underlying33, if_pos hlt, run_sizeOf_ok TB_ok (show tsz TB 32 = some 1 from rfl), Int.toNat_natCast, hp]
theorem putVer_c (bw : Nat) (bs : List UInt8) (L : LM) (hW : Wr bw bs L) (a q c : Int) (ha : 0 ≤ a ∧ a ≤ 4294967295) (hq : 0 ≤ q ∧ q ≤ 4294967295) (hc : 0 ≤ c ∧ c ≤ 255) (v : Va) (ho : okVa v) (hk : okV v = true) (A : Option Addr) (e : Nat) (w : World) (hR : ∀ w', St (keys L) w w' [] → Rd w' A (flat encU v.ks)) (hS : St (keys L) w w L) (hn : bs.length ≤ 17592186044416) :
    Fc Tryz.prog 67 [.pointer (some ⟨bw, 0, none⟩), verV a q c v A e] w fun u w' => ∃ L', Wr bw (bs ++ be a 4 ++ be q 4 ++ be c 1 ++ vaT v) L' ∧ St (keys L) w w' L' := by
  refine fc_i TB_ok Tryz.func67 rfl (by kernel_rfl) ?_
  have hS : Sf (keys L) w w (L ++ []) [] := ⟨by simpa using hS⟩
  repeat ((conv => whnf); first | (apply q_i; focus (intro w1 hS; (conv => whnf); first | exact ⟨rfl, rfl⟩ | ((first | refine ld_f hS 0 rfl rfl ?_ | refine ldA_f hS 0 rfl rfl ?_); (conv => whnf); exact ⟨rfl, rfl⟩))) | (refine nw_f hS ?_; intro b w1 hS) | refine as_i hS ?_ | refine as_i (hS.subs (List.nil_sublist _) sb9) ?_ | refine as_i (hS.subs (List.Sublist.refl _) sb9) ?_ | refine bar_f hS ?_ | refine ld_f hS 0 rfl rfl ?_ | refine ldA_f hS 0 rfl rfl ?_ | ((first | refine stN_f hS 0 rfl (lb9 rfl) rfl rfl ?_ | refine stM_f hS 0 rfl (lb9 rfl) rfl ?_); (conv => whnf); intro w1 hS) | (refine dr9 hS ?_; intro w1 hS) | refine br_t (by assumption) ?_ | refine br_f (by assumption) ?_)
  (conv => whnf)
  refine fc_m (w32_c _ _ L hW a ha.1 ha.2 _ hS.ownF (by omega)) ?_
  rintro u w2 ⟨L2, hW2, hS'⟩
  replace hS := hS.callW hS'
  repeat ((conv => whnf); first | (apply q_i; focus (intro w1 hS; (conv => whnf); first | exact ⟨rfl, rfl⟩ | ((first | refine ld_f hS 0 rfl rfl ?_ | refine ldA_f hS 0 rfl rfl ?_); (conv => whnf); exact ⟨rfl, rfl⟩))) | (refine nw_f hS ?_; intro b w1 hS) | refine as_i hS ?_ | refine as_i (hS.subs (List.nil_sublist _) sb9) ?_ | refine as_i (hS.subs (List.Sublist.refl _) sb9) ?_ | refine bar_f hS ?_ | refine ld_f hS 0 rfl rfl ?_ | refine ldA_f hS 0 rfl rfl ?_ | ((first | refine stN_f hS 0 rfl (lb9 rfl) rfl rfl ?_ | refine stM_f hS 0 rfl (lb9 rfl) rfl ?_); (conv => whnf); intro w1 hS) | (refine dr9 hS ?_; intro w1 hS) | refine br_t (by assumption) ?_ | refine br_f (by assumption) ?_)
  (conv => whnf)
  refine fc_m (w32_c _ _ L2 hW2 q hq.1 hq.2 _ hS.ownF (by simp only [List.length_append, be_len]; omega)) ?_
  rintro u w3 ⟨L3, hW3, hS'⟩
  replace hS := hS.callW hS'
  repeat ((conv => whnf); first | (apply q_i; focus (intro w1 hS; (conv => whnf); first | exact ⟨rfl, rfl⟩ | ((first | refine ld_f hS 0 rfl rfl ?_ | refine ldA_f hS 0 rfl rfl ?_); (conv => whnf); exact ⟨rfl, rfl⟩))) | (refine nw_f hS ?_; intro b w1 hS) | refine as_i hS ?_ | refine as_i (hS.subs (List.nil_sublist _) sb9) ?_ | refine as_i (hS.subs (List.Sublist.refl _) sb9) ?_ | refine bar_f hS ?_ | refine ld_f hS 0 rfl rfl ?_ | refine ldA_f hS 0 rfl rfl ?_ | ((first | refine stN_f hS 0 rfl (lb9 rfl) rfl rfl ?_ | refine stM_f hS 0 rfl (lb9 rfl) rfl ?_); (conv => whnf); intro w1 hS) | (refine dr9 hS ?_; intro w1 hS) | refine br_t (by assumption) ?_ | refine br_f (by assumption) ?_)
  (conv => whnf)
  refine fc_m (w8_c _ _ L3 hW3 c hc.1 (by omega) _ hS.ownF (by simp only [List.length_append, be_len]; omega)) ?_
  rintro u w4 ⟨L4, hW4, hS'⟩
  replace hS := hS.callW hS'
  repeat ((conv => whnf); first | (apply q_i; focus (intro w1 hS; (conv => whnf); first | exact ⟨rfl, rfl⟩ | ((first | refine ld_f hS 0 rfl rfl ?_ | refine ldA_f hS 0 rfl rfl ?_); (conv => whnf); exact ⟨rfl, rfl⟩) | ((refine ldN_f hS 0 rfl (lb9 rfl) ?_); (conv => whnf); exact ⟨rfl, rfl⟩))) | (refine nw_f hS ?_; intro b w1 hS) | refine as_i hS ?_ | refine as_i (hS.subs (List.nil_sublist _) sb9) ?_ | refine as_i (hS.subs (List.Sublist.refl _) sb9) ?_ | refine bar_f hS ?_ | refine ld_f hS 0 rfl rfl ?_ | refine ldA_f hS 0 rfl rfl ?_ | ((first | refine stN_f hS 0 rfl (lb9 rfl) rfl rfl ?_ | refine stM_f hS 0 rfl (lb9 rfl) rfl ?_); (conv => whnf); intro w1 hS) | refine ldN_f hS 0 rfl (lb9 rfl) ?_ | (refine dr9 hS ?_; intro w1 hS) | refine br_t (by assumption) ?_ | refine br_f (by assumption) ?_)
  (conv => whnf)
  refine fc_m (putValue_c bw _ L4 hW4 v ho hk A e _ (fun w' h' => hR w' (hS.callW h').nil) hS.ownF (by simp only [List.length_append, be_len]; omega)) ?_
  rintro u w5 ⟨L5, hW5, hS'⟩
  replace hS := hS.callW hS'
  repeat ((conv => whnf); first | (apply q_i; focus (intro w1 hS; (conv => whnf); first | exact ⟨rfl, rfl⟩ | ((first | refine ld_f hS 0 rfl rfl ?_ | refine ldA_f hS 0 rfl rfl ?_); (conv => whnf); exact ⟨rfl, rfl⟩))) | (refine nw_f hS ?_; intro b w1 hS) | refine as_i hS ?_ | refine as_i (hS.subs (List.nil_sublist _) sb9) ?_ | refine as_i (hS.subs (List.Sublist.refl _) sb9) ?_ | refine bar_f hS ?_ | refine ld_f hS 0 rfl rfl ?_ | refine ldA_f hS 0 rfl rfl ?_ | ((first | refine stN_f hS 0 rfl (lb9 rfl) rfl rfl ?_ | refine stM_f hS 0 rfl (lb9 rfl) rfl ?_); (conv => whnf); intro w1 hS) | (refine dr9 hS ?_; intro w1 hS) | refine br_t (by assumption) ?_ | refine br_f (by assumption) ?_)
  (conv => whnf)
  have h2 := hS.fr (List.Sublist.refl _)
  rw [List.append_nil] at h2
  exact ⟨L5, hW5, h2⟩
theorem putRegX_c (bw : Nat) (bs : List UInt8) (L : LM) (hW : Wr bw bs L) (x : Rx) (ho : okR x) (hm : mayR x = true) (hk : x.k = 4) (h : Hd) (ms : List Sm) (hxe : x.xs = ms.map Sm.s) (w : World) (hR : ∀ w', St (keys L) w w' [] → RdM w' h.A ms) (hS : St (keys L) w w L) (hn : bs.length ≤ 17592186044416) :
    Fc Tryz.prog 66 [.pointer (some ⟨bw, 0, none⟩), regV x.f h.A x.xs.length h.c] w fun u w' => ∃ L', Wr bw (bs ++ (ctxT x.f ++ be x.xs.length 1 ++ sbsT x.xs)) L' ∧ St (keys L) w w' L' := by
  rw [mayR4 hk, Bool.and_eq_true] at hm
  obtain ⟨hv, h8, he⟩ := regB_parts hm.2
  have hl : x.xs.length = ms.length := by rw [hxe, List.length_map]
  have := putReg_c bw bs L hW x.f (fun j hj => ⟨(ho.f j hj).1, mayVB_le hv j hj⟩) h.A h.c ms (by omega) (fun m hm' => by
    have hs : m.s ∈ x.xs := by rw [hxe]; exact List.mem_map_of_mem hm'
    exact ⟨ho.xs _ hs, (he _ hs).2, (hasB_dot (he _ hs).1).2.2⟩) w hR hS hn
  rwa [← hl, ← hxe] at this
theorem w32u_c (bw : Nat) (bs : List UInt8) (L : LM) (hW : Wr bw bs L) (n : Int) (h0 : 0 ≤ n) (h1 : n ≤ 4294967295) (w : World) (hS : St (keys L) w w L) (hn : bs.length ≤ 70368744177664) :
    Fc Tryz.prog 64 [.pointer (some ⟨bw, 0, none⟩), .int .u32 (IntKind.u32.wrap n)] w fun v w' => ∃ L', Wr bw (bs ++ be n 4) L' ∧ St (keys L) w w' L' := by
  rw [wrap_u32 h0 (by omega)]
  exact w32_c bw bs L hW n h0 h1 w hS hn
set_option maxHeartbeats 4000000 in
theorem put18_c (bw : Nat) (bs : List UInt8) (L : LM) (hW : Wr bw bs L) (x : Rx) (ho : okR x) (hc : checkR x = true) (h : Hd) (ms : List Sm) (w : World) (hR : ∀ w', St (keys L) w w' [] → MemR w' x h ms) (hS : St (keys L) w w L) (hn : bs.length ≤ 8796093022208) :
    Fc Tryz.prog 35 [.pointer (some ⟨bw, 0, none⟩), recV x h] w fun u w' => ∃ L', Wr bw (bs ++ recT x) L' ∧ St (keys L) w w' L' := by
  have hm := checkR_may hc
  have hxe := (hR w hS.nil).eq
  have hxl := (hR w hS.nil).len
  unfold recT
  rw [← List.append_assoc]
  rcases checkR_kinds hc with hk | hk | hk | hk | hk | hk | hk | hk
  · rw [restT1 hk]
    rw [mayR1 hk] at hm
    have g1 : (x.k == 1) = true := by rw [hk]; rfl
    have g2 : (x.k == 2) = false := by rw [hk]; rfl
    have g3 : (x.k == 3) = false := by rw [hk]; rfl
    have g4 : (x.k == 4) = false := by rw [hk]; rfl
    have g5 : (x.k == 5) = false := by rw [hk]; rfl
    have g6 : (x.k == 6) = false := by rw [hk]; rfl
    have g7 : (x.k == 7) = false := by rw [hk]; rfl
    have g8 : (x.k == 8) = false := by rw [hk]; rfl
    have hr : x.r < 8 := of_decide_eq_true hm
    refine fc_i TB_ok Tryz.func35 rfl (by kernel_rfl) ?_
    have hS : Sf (keys L) w w (L ++ []) [] := ⟨by simpa using hS⟩
    repeat ((conv => whnf); first | (apply q_i; focus (intro w1 hS; (conv => whnf); first | exact ⟨rfl, rfl⟩ | ((first | refine ld_f hS 0 rfl rfl ?_ | refine ldA_f hS 0 rfl rfl ?_); (conv => whnf); exact ⟨rfl, rfl⟩) | ((refine ldN_f hS 0 rfl (lb9 rfl) ?_); (conv => whnf); exact ⟨rfl, rfl⟩) | ((refine br_t (by assumption) ?_); (conv => whnf); exact ⟨rfl, rfl⟩) | ((refine br_f (by assumption) ?_); (conv => whnf); exact ⟨rfl, rfl⟩))) | (refine nw_f hS ?_; intro b w1 hS) | refine as_i hS ?_ | refine as_i (hS.subs (List.nil_sublist _) sb9) ?_ | refine as_i (hS.subs (List.Sublist.refl _) sb9) ?_ | refine bar_f hS ?_ | refine ld_f hS 0 rfl rfl ?_ | refine ldA_f hS 0 rfl rfl ?_ | ((first | refine stN_f hS 0 rfl (lb9 rfl) rfl rfl ?_ | refine stM_f hS 0 rfl (lb9 rfl) rfl ?_); (conv => whnf); intro w1 hS) | refine ldN_f hS 0 rfl (lb9 rfl) ?_ | refine br_t (by assumption) ?_ | refine br_f (by assumption) ?_ | (refine dr9 hS ?_; intro w1 hS) | refine br_t (by assumption) ?_ | refine br_f (by assumption) ?_)
    (conv => whnf)
    refine fc_m (w8_c _ _ L hW x.k ho.k.1 (by have := ho.k; omega) _ hS.ownF (by omega)) ?_
    rintro u w3 ⟨L0, hW0, hS'⟩
    replace hS := hS.callW hS'
    repeat ((conv => whnf); first | (apply q_i; focus (intro w1 hS; (conv => whnf); first | exact ⟨rfl, rfl⟩ | ((first | refine ld_f hS 0 rfl rfl ?_ | refine ldA_f hS 0 rfl rfl ?_); (conv => whnf); exact ⟨rfl, rfl⟩) | ((refine ldN_f hS 0 rfl (lb9 rfl) ?_); (conv => whnf); exact ⟨rfl, rfl⟩) | ((refine br_t (by assumption) ?_); (conv => whnf); exact ⟨rfl, rfl⟩) | ((refine br_f (by assumption) ?_); (conv => whnf); exact ⟨rfl, rfl⟩))) | (refine nw_f hS ?_; intro b w1 hS) | refine as_i hS ?_ | refine as_i (hS.subs (List.nil_sublist _) sb9) ?_ | refine as_i (hS.subs (List.Sublist.refl _) sb9) ?_ | refine bar_f hS ?_ | refine ld_f hS 0 rfl rfl ?_ | refine ldA_f hS 0 rfl rfl ?_ | ((first | refine stN_f hS 0 rfl (lb9 rfl) rfl rfl ?_ | refine stM_f hS 0 rfl (lb9 rfl) rfl ?_); (conv => whnf); intro w1 hS) | refine ldN_f hS 0 rfl (lb9 rfl) ?_ | refine br_t (by assumption) ?_ | refine br_f (by assumption) ?_ | (refine dr9 hS ?_; intro w1 hS) | refine br_t (by assumption) ?_ | refine br_f (by assumption) ?_)
    (conv => whnf)
    refine fc_m (w8_c _ _ L0 hW0 x.r ho.r.1 (by have := ho.r; omega) _ hS.ownF (by simp only [List.length_append, be_len]; omega)) ?_
    rintro u w3 ⟨L1, hW1, hS'⟩
    replace hS := hS.callW hS'
    repeat ((conv => whnf); first | (apply q_i; focus (intro w1 hS; (conv => whnf); first | exact ⟨rfl, rfl⟩ | ((first | refine ld_f hS 0 rfl rfl ?_ | refine ldA_f hS 0 rfl rfl ?_); (conv => whnf); exact ⟨rfl, rfl⟩))) | (refine nw_f hS ?_; intro b w1 hS) | refine as_i hS ?_ | refine as_i (hS.subs (List.nil_sublist _) sb9) ?_ | refine as_i (hS.subs (List.Sublist.refl _) sb9) ?_ | refine bar_f hS ?_ | refine ld_f hS 0 rfl rfl ?_ | refine ldA_f hS 0 rfl rfl ?_ | ((first | refine stN_f hS 0 rfl (lb9 rfl) rfl rfl ?_ | refine stM_f hS 0 rfl (lb9 rfl) rfl ?_); (conv => whnf); intro w1 hS) | (refine dr9 hS ?_; intro w1 hS) | refine br_t (by assumption) ?_ | refine br_f (by assumption) ?_)
    (conv => whnf)
    have h2 := hS.fr (List.Sublist.refl _)
    rw [List.append_nil] at h2
    refine ⟨L1, ?_, h2⟩
    simpa only [List.append_assoc] using hW1
  · rw [restT2 hk]
    rw [mayR2 hk] at hm
    have g1 : (x.k == 1) = false := by rw [hk]; rfl
    have g2 : (x.k == 2) = true := by rw [hk]; rfl
    have g3 : (x.k == 3) = false := by rw [hk]; rfl
    have g4 : (x.k == 4) = false := by rw [hk]; rfl
    have g5 : (x.k == 5) = false := by rw [hk]; rfl
    have g6 : (x.k == 6) = false := by rw [hk]; rfl
    have g7 : (x.k == 7) = false := by rw [hk]; rfl
    have g8 : (x.k == 8) = false := by rw [hk]; rfl
    refine fc_i TB_ok Tryz.func35 rfl (by kernel_rfl) ?_
    have hS : Sf (keys L) w w (L ++ []) [] := ⟨by simpa using hS⟩
    repeat ((conv => whnf); first | (apply q_i; focus (intro w1 hS; (conv => whnf); first | exact ⟨rfl, rfl⟩ | ((first | refine ld_f hS 0 rfl rfl ?_ | refine ldA_f hS 0 rfl rfl ?_); (conv => whnf); exact ⟨rfl, rfl⟩) | ((refine ldN_f hS 0 rfl (lb9 rfl) ?_); (conv => whnf); exact ⟨rfl, rfl⟩) | ((refine br_t (by assumption) ?_); (conv => whnf); exact ⟨rfl, rfl⟩) | ((refine br_f (by assumption) ?_); (conv => whnf); exact ⟨rfl, rfl⟩))) | (refine nw_f hS ?_; intro b w1 hS) | refine as_i hS ?_ | refine as_i (hS.subs (List.nil_sublist _) sb9) ?_ | refine as_i (hS.subs (List.Sublist.refl _) sb9) ?_ | refine bar_f hS ?_ | refine ld_f hS 0 rfl rfl ?_ | refine ldA_f hS 0 rfl rfl ?_ | ((first | refine stN_f hS 0 rfl (lb9 rfl) rfl rfl ?_ | refine stM_f hS 0 rfl (lb9 rfl) rfl ?_); (conv => whnf); intro w1 hS) | refine ldN_f hS 0 rfl (lb9 rfl) ?_ | refine br_t (by assumption) ?_ | refine br_f (by assumption) ?_ | (refine dr9 hS ?_; intro w1 hS) | refine br_t (by assumption) ?_ | refine br_f (by assumption) ?_)
    (conv => whnf)
    refine fc_m (w8_c _ _ L hW x.k ho.k.1 (by have := ho.k; omega) _ hS.ownF (by omega)) ?_
    rintro u w3 ⟨L0, hW0, hS'⟩
    replace hS := hS.callW hS'
    repeat ((conv => whnf); first | (apply q_i; focus (intro w1 hS; (conv => whnf); first | exact ⟨rfl, rfl⟩ | ((first | refine ld_f hS 0 rfl rfl ?_ | refine ldA_f hS 0 rfl rfl ?_); (conv => whnf); exact ⟨rfl, rfl⟩) | ((refine ldN_f hS 0 rfl (lb9 rfl) ?_); (conv => whnf); exact ⟨rfl, rfl⟩) | ((refine br_t (by assumption) ?_); (conv => whnf); exact ⟨rfl, rfl⟩) | ((refine br_f (by assumption) ?_); (conv => whnf); exact ⟨rfl, rfl⟩))) | (refine nw_f hS ?_; intro b w1 hS) | refine as_i hS ?_ | refine as_i (hS.subs (List.nil_sublist _) sb9) ?_ | refine as_i (hS.subs (List.Sublist.refl _) sb9) ?_ | refine bar_f hS ?_ | refine ld_f hS 0 rfl rfl ?_ | refine ldA_f hS 0 rfl rfl ?_ | ((first | refine stN_f hS 0 rfl (lb9 rfl) rfl rfl ?_ | refine stM_f hS 0 rfl (lb9 rfl) rfl ?_); (conv => whnf); intro w1 hS) | refine ldN_f hS 0 rfl (lb9 rfl) ?_ | refine br_t (by assumption) ?_ | refine br_f (by assumption) ?_ | (refine dr9 hS ?_; intro w1 hS) | refine br_t (by assumption) ?_ | refine br_f (by assumption) ?_)
    refine loop_i TB_ok (fun i : Nat => [(22, .int .i64 i)]) (fun i w' => i ≤ 3 ∧ ∃ L', Wr bw (bs ++ be x.k 1 ++ ([x.n0, x.n1, x.n2].take i).flatMap (fun n => be n 4)) L' ∧ Sf (keys L) w w' (L' ++ []) [_]) (fun i => 3 - i) 0 rfl ⟨Nat.zero_le _, L0, by simpa using hW0, hS⟩ ?_
    rintro i us w4 ⟨hi, L1, hW1, hS⟩
    (conv => whnf)
    refine br_i (fun hb => ?_) (fun hb => ?_)
    · have hlt : i < 3 := by have := of_decide_eq_true hb; omega
      have hni : 0 ≤ l3 x.n0 x.n1 x.n2 i ∧ l3 x.n0 x.n1 x.n2 i ≤ 4294967295 := by
        rcases (show i = 0 ∨ i = 1 ∨ i = 2 by omega) with rfl | rfl | rfl
        · exact ho.n0
        · exact ho.n1
        · exact ho.n2
      have hln : (([x.n0, x.n1, x.n2].take i).flatMap (fun n => be n 4)).length ≤ 12 := by
        rcases (show i = 0 ∨ i = 1 ∨ i = 2 by omega) with rfl | rfl | rfl <;> simp [be_len]
      have hstep : ([x.n0, x.n1, x.n2].take (i + 1)).flatMap (fun n => be n 4) = ([x.n0, x.n1, x.n2].take i).flatMap (fun n => be n 4) ++ be (l3 x.n0 x.n1 x.n2 i) 4 := by
        rcases (show i = 0 ∨ i = 1 ∨ i = 2 by omega) with rfl | rfl | rfl <;> simp [l3]
      repeat ((conv => whnf); first | (apply q_i; focus (intro w1 hS; (conv => whnf); first | exact ⟨rfl, rfl⟩ | ((first | refine ld_f hS 0 rfl rfl ?_ | refine ldA_f hS 0 rfl rfl ?_); (conv => whnf); exact ⟨rfl, rfl⟩) | ((refine idx3 (a := x.n0) (q := x.n1) (c := x.n2) hlt ?_); (conv => whnf); exact ⟨rfl, rfl⟩))) | (refine nw_f hS ?_; intro b w1 hS) | refine as_i hS ?_ | refine as_i (hS.subs (List.nil_sublist _) sb9) ?_ | refine as_i (hS.subs (List.Sublist.refl _) sb9) ?_ | refine bar_f hS ?_ | refine ld_f hS 0 rfl rfl ?_ | refine ldA_f hS 0 rfl rfl ?_ | ((first | refine stN_f hS 0 rfl (lb9 rfl) rfl rfl ?_ | refine stM_f hS 0 rfl (lb9 rfl) rfl ?_); (conv => whnf); intro w1 hS) | refine idx3 (a := x.n0) (q := x.n1) (c := x.n2) hlt ?_ | (refine dr9 hS ?_; intro w1 hS) | refine br_t (by assumption) ?_ | refine br_f (by assumption) ?_)
      (conv => whnf)
      refine fc_m (w32_c _ _ L1 hW1 (l3 x.n0 x.n1 x.n2 i) hni.1 hni.2 _ hS.ownF (by simp only [List.length_append, be_len]; omega)) ?_
      rintro u w5 ⟨L2, hW2, hS'⟩
      replace hS := hS.callW hS'
      repeat ((conv => whnf); first | (apply q_i; focus (intro w1 hS; (conv => whnf); first | exact ⟨rfl, rfl⟩ | ((first | refine ld_f hS 0 rfl rfl ?_ | refine ldA_f hS 0 rfl rfl ?_); (conv => whnf); exact ⟨rfl, rfl⟩))) | (refine nw_f hS ?_; intro b w1 hS) | refine as_i hS ?_ | refine as_i (hS.subs (List.nil_sublist _) sb9) ?_ | refine as_i (hS.subs (List.Sublist.refl _) sb9) ?_ | refine bar_f hS ?_ | refine ld_f hS 0 rfl rfl ?_ | refine ldA_f hS 0 rfl rfl ?_ | ((first | refine stN_f hS 0 rfl (lb9 rfl) rfl rfl ?_ | refine stM_f hS 0 rfl (lb9 rfl) rfl ?_); (conv => whnf); intro w1 hS) | (refine dr9 hS ?_; intro w1 hS) | refine br_t (by assumption) ?_ | refine br_f (by assumption) ?_)
      refine ⟨rfl, i + 1, ?_, ⟨by omega, L2, ?_, hS⟩, by omega⟩
      · rw [wi hlt (by omega)]
        rfl
      · rw [hstep, ← List.append_assoc]
        exact hW2
    · have hge : i = 3 := by have := of_decide_eq_false hb; omega
      subst hge
      repeat ((conv => whnf); first | (apply q_i; focus (intro w1 hS; (conv => whnf); first | exact ⟨rfl, rfl⟩ | ((first | refine ld_f hS 0 rfl rfl ?_ | refine ldA_f hS 0 rfl rfl ?_); (conv => whnf); exact ⟨rfl, rfl⟩))) | (refine nw_f hS ?_; intro b w1 hS) | refine as_i hS ?_ | refine as_i (hS.subs (List.nil_sublist _) sb9) ?_ | refine as_i (hS.subs (List.Sublist.refl _) sb9) ?_ | refine bar_f hS ?_ | refine ld_f hS 0 rfl rfl ?_ | refine ldA_f hS 0 rfl rfl ?_ | ((first | refine stN_f hS 0 rfl (lb9 rfl) rfl rfl ?_ | refine stM_f hS 0 rfl (lb9 rfl) rfl ?_); (conv => whnf); intro w1 hS) | (refine dr9 hS ?_; intro w1 hS) | refine br_t (by assumption) ?_ | refine br_f (by assumption) ?_)
      (conv => whnf)
      have h2 := hS.fr (List.Sublist.refl _)
      rw [List.append_nil] at h2
      exact ⟨L1, by simpa using hW1, h2⟩
  · rw [restT3 hk]
    rw [mayR3 hk] at hm
    have g1 : (x.k == 1) = false := by rw [hk]; rfl
    have g2 : (x.k == 2) = false := by rw [hk]; rfl
    have g3 : (x.k == 3) = true := by rw [hk]; rfl
    have g4 : (x.k == 4) = false := by rw [hk]; rfl
    have g5 : (x.k == 5) = false := by rw [hk]; rfl
    have g6 : (x.k == 6) = false := by rw [hk]; rfl
    have g7 : (x.k == 7) = false := by rw [hk]; rfl
    have g8 : (x.k == 8) = false := by rw [hk]; rfl
    rw [Bool.and_eq_true, inB_iff] at hm
    refine fc_i TB_ok Tryz.func35 rfl (by kernel_rfl) ?_
    have hS : Sf (keys L) w w (L ++ []) [] := ⟨by simpa using hS⟩
    repeat ((conv => whnf); first | (apply q_i; focus (intro w1 hS; (conv => whnf); first | exact ⟨rfl, rfl⟩ | ((first | refine ld_f hS 0 rfl rfl ?_ | refine ldA_f hS 0 rfl rfl ?_); (conv => whnf); exact ⟨rfl, rfl⟩) | ((refine ldN_f hS 0 rfl (lb9 rfl) ?_); (conv => whnf); exact ⟨rfl, rfl⟩) | ((refine br_t (by assumption) ?_); (conv => whnf); exact ⟨rfl, rfl⟩) | ((refine br_f (by assumption) ?_); (conv => whnf); exact ⟨rfl, rfl⟩))) | (refine nw_f hS ?_; intro b w1 hS) | refine as_i hS ?_ | refine as_i (hS.subs (List.nil_sublist _) sb9) ?_ | refine as_i (hS.subs (List.Sublist.refl _) sb9) ?_ | refine bar_f hS ?_ | refine ld_f hS 0 rfl rfl ?_ | refine ldA_f hS 0 rfl rfl ?_ | ((first | refine stN_f hS 0 rfl (lb9 rfl) rfl rfl ?_ | refine stM_f hS 0 rfl (lb9 rfl) rfl ?_); (conv => whnf); intro w1 hS) | refine ldN_f hS 0 rfl (lb9 rfl) ?_ | refine br_t (by assumption) ?_ | refine br_f (by assumption) ?_ | (refine dr9 hS ?_; intro w1 hS) | refine br_t (by assumption) ?_ | refine br_f (by assumption) ?_)
    (conv => whnf)
    refine fc_m (w8_c _ _ L hW x.k ho.k.1 (by have := ho.k; omega) _ hS.ownF (by omega)) ?_
    rintro u w3 ⟨L0, hW0, hS'⟩
    replace hS := hS.callW hS'
    repeat ((conv => whnf); first | (apply q_i; focus (intro w1 hS; (conv => whnf); first | exact ⟨rfl, rfl⟩ | ((first | refine ld_f hS 0 rfl rfl ?_ | refine ldA_f hS 0 rfl rfl ?_); (conv => whnf); exact ⟨rfl, rfl⟩) | ((refine ldN_f hS 0 rfl (lb9 rfl) ?_); (conv => whnf); exact ⟨rfl, rfl⟩) | ((refine br_t (by assumption) ?_); (conv => whnf); exact ⟨rfl, rfl⟩) | ((refine br_f (by assumption) ?_); (conv => whnf); exact ⟨rfl, rfl⟩))) | (refine nw_f hS ?_; intro b w1 hS) | refine as_i hS ?_ | refine as_i (hS.subs (List.nil_sublist _) sb9) ?_ | refine as_i (hS.subs (List.Sublist.refl _) sb9) ?_ | refine bar_f hS ?_ | refine ld_f hS 0 rfl rfl ?_ | refine ldA_f hS 0 rfl rfl ?_ | ((first | refine stN_f hS 0 rfl (lb9 rfl) rfl rfl ?_ | refine stM_f hS 0 rfl (lb9 rfl) rfl ?_); (conv => whnf); intro w1 hS) | refine ldN_f hS 0 rfl (lb9 rfl) ?_ | refine br_t (by assumption) ?_ | refine br_f (by assumption) ?_ | (refine dr9 hS ?_; intro w1 hS) | refine br_t (by assumption) ?_ | refine br_f (by assumption) ?_)
    (conv => whnf)
    refine fc_m (w8_c _ _ L0 hW0 x.rk ho.rk.1 (by have := ho.rk; omega) _ hS.ownF (by simp only [List.length_append, be_len]; omega)) ?_
    rintro u w3 ⟨L1, hW1, hS'⟩
    replace hS := hS.callW hS'
    repeat ((conv => whnf); first | (apply q_i; focus (intro w1 hS; (conv => whnf); first | exact ⟨rfl, rfl⟩ | ((first | refine ld_f hS 0 rfl rfl ?_ | refine ldA_f hS 0 rfl rfl ?_); (conv => whnf); exact ⟨rfl, rfl⟩) | ((refine ldN_f hS 0 rfl (lb9 rfl) ?_); (conv => whnf); exact ⟨rfl, rfl⟩) | ((refine br_t (by assumption) ?_); (conv => whnf); exact ⟨rfl, rfl⟩) | ((refine br_f (by assumption) ?_); (conv => whnf); exact ⟨rfl, rfl⟩))) | (refine nw_f hS ?_; intro b w1 hS) | refine as_i hS ?_ | refine as_i (hS.subs (List.nil_sublist _) sb9) ?_ | refine as_i (hS.subs (List.Sublist.refl _) sb9) ?_ | refine bar_f hS ?_ | refine ld_f hS 0 rfl rfl ?_ | refine ldA_f hS 0 rfl rfl ?_ | ((first | refine stN_f hS 0 rfl (lb9 rfl) rfl rfl ?_ | refine stM_f hS 0 rfl (lb9 rfl) rfl ?_); (conv => whnf); intro w1 hS) | refine ldN_f hS 0 rfl (lb9 rfl) ?_ | refine br_t (by assumption) ?_ | refine br_f (by assumption) ?_ | (refine dr9 hS ?_; intro w1 hS) | refine br_t (by assumption) ?_ | refine br_f (by assumption) ?_)
    (conv => whnf)
    refine fc_m (w32_c _ _ L1 hW1 x.ra ho.ra.1 ho.ra.2 _ hS.ownF (by simp only [List.length_append, be_len]; omega)) ?_
    rintro u w3 ⟨L2, hW2, hS'⟩
    replace hS := hS.callW hS'
    repeat ((conv => whnf); first | (apply q_i; focus (intro w1 hS; (conv => whnf); first | exact ⟨rfl, rfl⟩ | ((first | refine ld_f hS 0 rfl rfl ?_ | refine ldA_f hS 0 rfl rfl ?_); (conv => whnf); exact ⟨rfl, rfl⟩) | ((refine ldN_f hS 0 rfl (lb9 rfl) ?_); (conv => whnf); exact ⟨rfl, rfl⟩) | ((refine br_t (by assumption) ?_); (conv => whnf); exact ⟨rfl, rfl⟩) | ((refine br_f (by assumption) ?_); (conv => whnf); exact ⟨rfl, rfl⟩))) | (refine nw_f hS ?_; intro b w1 hS) | refine as_i hS ?_ | refine as_i (hS.subs (List.nil_sublist _) sb9) ?_ | refine as_i (hS.subs (List.Sublist.refl _) sb9) ?_ | refine bar_f hS ?_ | refine ld_f hS 0 rfl rfl ?_ | refine ldA_f hS 0 rfl rfl ?_ | ((first | refine stN_f hS 0 rfl (lb9 rfl) rfl rfl ?_ | refine stM_f hS 0 rfl (lb9 rfl) rfl ?_); (conv => whnf); intro w1 hS) | refine ldN_f hS 0 rfl (lb9 rfl) ?_ | refine br_t (by assumption) ?_ | refine br_f (by assumption) ?_ | (refine dr9 hS ?_; intro w1 hS) | refine br_t (by assumption) ?_ | refine br_f (by assumption) ?_)
    (conv => whnf)
    refine fc_m (w32u_c _ _ L2 hW2 x.rq hm.2.1 (by omega) _ hS.ownF (by simp only [List.length_append, be_len]; omega)) ?_
    rintro u w3 ⟨L3, hW3, hS'⟩
    replace hS := hS.callW hS'
    repeat ((conv => whnf); first | (apply q_i; focus (intro w1 hS; (conv => whnf); first | exact ⟨rfl, rfl⟩ | ((first | refine ld_f hS 0 rfl rfl ?_ | refine ldA_f hS 0 rfl rfl ?_); (conv => whnf); exact ⟨rfl, rfl⟩))) | (refine nw_f hS ?_; intro b w1 hS) | refine as_i hS ?_ | refine as_i (hS.subs (List.nil_sublist _) sb9) ?_ | refine as_i (hS.subs (List.Sublist.refl _) sb9) ?_ | refine bar_f hS ?_ | refine ld_f hS 0 rfl rfl ?_ | refine ldA_f hS 0 rfl rfl ?_ | ((first | refine stN_f hS 0 rfl (lb9 rfl) rfl rfl ?_ | refine stM_f hS 0 rfl (lb9 rfl) rfl ?_); (conv => whnf); intro w1 hS) | (refine dr9 hS ?_; intro w1 hS) | refine br_t (by assumption) ?_ | refine br_f (by assumption) ?_)
    (conv => whnf)
    have h2 := hS.fr (List.Sublist.refl _)
    rw [List.append_nil] at h2
    refine ⟨L3, ?_, h2⟩
    simpa only [List.append_assoc] using hW3
  · rw [restT4 hk]
    rw [mayR4 hk] at hm
    have g1 : (x.k == 1) = false := by rw [hk]; rfl
    have g2 : (x.k == 2) = false := by rw [hk]; rfl
    have g3 : (x.k == 3) = false := by rw [hk]; rfl
    have g4 : (x.k == 4) = true := by rw [hk]; rfl
    have g5 : (x.k == 5) = false := by rw [hk]; rfl
    have g6 : (x.k == 6) = false := by rw [hk]; rfl
    have g7 : (x.k == 7) = false := by rw [hk]; rfl
    have g8 : (x.k == 8) = false := by rw [hk]; rfl
    rw [Bool.and_eq_true] at hm
    have hp := namedB_len hm.1
    have hpt : (pathT x.p).length ≤ 37 := by unfold pathT; rw [List.length_append, be_len]; omega
    refine fc_i TB_ok Tryz.func35 rfl (by kernel_rfl) ?_
    have hS : Sf (keys L) w w (L ++ []) [] := ⟨by simpa using hS⟩
    repeat ((conv => whnf); first | (apply q_i; focus (intro w1 hS; (conv => whnf); first | exact ⟨rfl, rfl⟩ | ((first | refine ld_f hS 0 rfl rfl ?_ | refine ldA_f hS 0 rfl rfl ?_); (conv => whnf); exact ⟨rfl, rfl⟩) | ((refine ldN_f hS 0 rfl (lb9 rfl) ?_); (conv => whnf); exact ⟨rfl, rfl⟩) | ((refine br_t (by assumption) ?_); (conv => whnf); exact ⟨rfl, rfl⟩) | ((refine br_f (by assumption) ?_); (conv => whnf); exact ⟨rfl, rfl⟩))) | (refine nw_f hS ?_; intro b w1 hS) | refine as_i hS ?_ | refine as_i (hS.subs (List.nil_sublist _) sb9) ?_ | refine as_i (hS.subs (List.Sublist.refl _) sb9) ?_ | refine bar_f hS ?_ | refine ld_f hS 0 rfl rfl ?_ | refine ldA_f hS 0 rfl rfl ?_ | ((first | refine stN_f hS 0 rfl (lb9 rfl) rfl rfl ?_ | refine stM_f hS 0 rfl (lb9 rfl) rfl ?_); (conv => whnf); intro w1 hS) | refine ldN_f hS 0 rfl (lb9 rfl) ?_ | refine br_t (by assumption) ?_ | refine br_f (by assumption) ?_ | (refine dr9 hS ?_; intro w1 hS) | refine br_t (by assumption) ?_ | refine br_f (by assumption) ?_)
    (conv => whnf)
    refine fc_m (w8_c _ _ L hW x.k ho.k.1 (by have := ho.k; omega) _ hS.ownF (by omega)) ?_
    rintro u w3 ⟨L0, hW0, hS'⟩
    replace hS := hS.callW hS'
    repeat ((conv => whnf); first | (apply q_i; focus (intro w1 hS; (conv => whnf); first | exact ⟨rfl, rfl⟩ | ((first | refine ld_f hS 0 rfl rfl ?_ | refine ldA_f hS 0 rfl rfl ?_); (conv => whnf); exact ⟨rfl, rfl⟩) | ((refine ldN_f hS 0 rfl (lb9 rfl) ?_); (conv => whnf); exact ⟨rfl, rfl⟩) | ((refine br_t (by assumption) ?_); (conv => whnf); exact ⟨rfl, rfl⟩) | ((refine br_f (by assumption) ?_); (conv => whnf); exact ⟨rfl, rfl⟩))) | (refine nw_f hS ?_; intro b w1 hS) | refine as_i hS ?_ | refine as_i (hS.subs (List.nil_sublist _) sb9) ?_ | refine as_i (hS.subs (List.Sublist.refl _) sb9) ?_ | refine bar_f hS ?_ | refine ld_f hS 0 rfl rfl ?_ | refine ldA_f hS 0 rfl rfl ?_ | ((first | refine stN_f hS 0 rfl (lb9 rfl) rfl rfl ?_ | refine stM_f hS 0 rfl (lb9 rfl) rfl ?_); (conv => whnf); intro w1 hS) | refine ldN_f hS 0 rfl (lb9 rfl) ?_ | refine br_t (by assumption) ?_ | refine br_f (by assumption) ?_ | (refine dr9 hS ?_; intro w1 hS) | refine br_t (by assumption) ?_ | refine br_f (by assumption) ?_)
    (conv => whnf)
    refine fc_m (putPath_c _ _ L0 hW0 x.p (by omega) _ hS.ownF (by simp only [List.length_append, be_len]; omega)) ?_
    rintro u w3 ⟨L1, hW1, hS'⟩
    replace hS := hS.callW hS'
    repeat ((conv => whnf); first | (apply q_i; focus (intro w1 hS; (conv => whnf); first | exact ⟨rfl, rfl⟩ | ((first | refine ld_f hS 0 rfl rfl ?_ | refine ldA_f hS 0 rfl rfl ?_); (conv => whnf); exact ⟨rfl, rfl⟩) | ((refine ldN_f hS 0 rfl (lb9 rfl) ?_); (conv => whnf); exact ⟨rfl, rfl⟩) | ((refine br_t (by assumption) ?_); (conv => whnf); exact ⟨rfl, rfl⟩) | ((refine br_f (by assumption) ?_); (conv => whnf); exact ⟨rfl, rfl⟩))) | (refine nw_f hS ?_; intro b w1 hS) | refine as_i hS ?_ | refine as_i (hS.subs (List.nil_sublist _) sb9) ?_ | refine as_i (hS.subs (List.Sublist.refl _) sb9) ?_ | refine bar_f hS ?_ | refine ld_f hS 0 rfl rfl ?_ | refine ldA_f hS 0 rfl rfl ?_ | ((first | refine stN_f hS 0 rfl (lb9 rfl) rfl rfl ?_ | refine stM_f hS 0 rfl (lb9 rfl) rfl ?_); (conv => whnf); intro w1 hS) | refine ldN_f hS 0 rfl (lb9 rfl) ?_ | refine br_t (by assumption) ?_ | refine br_f (by assumption) ?_ | (refine dr9 hS ?_; intro w1 hS) | refine br_t (by assumption) ?_ | refine br_f (by assumption) ?_)
    (conv => whnf)
    refine fc_m (putRegX_c _ _ L1 hW1 x ho (by rw [mayR4 hk, Bool.and_eq_true]; exact hm) hk h ms hxe _ (fun w' h' => (hR w' (hS.callW h').nil).l) hS.ownF (by simp only [List.length_append, be_len]; omega)) ?_
    rintro u w3 ⟨L2, hW2, hS'⟩
    replace hS := hS.callW hS'
    repeat ((conv => whnf); first | (apply q_i; focus (intro w1 hS; (conv => whnf); first | exact ⟨rfl, rfl⟩ | ((first | refine ld_f hS 0 rfl rfl ?_ | refine ldA_f hS 0 rfl rfl ?_); (conv => whnf); exact ⟨rfl, rfl⟩))) | (refine nw_f hS ?_; intro b w1 hS) | refine as_i hS ?_ | refine as_i (hS.subs (List.nil_sublist _) sb9) ?_ | refine as_i (hS.subs (List.Sublist.refl _) sb9) ?_ | refine bar_f hS ?_ | refine ld_f hS 0 rfl rfl ?_ | refine ldA_f hS 0 rfl rfl ?_ | ((first | refine stN_f hS 0 rfl (lb9 rfl) rfl rfl ?_ | refine stM_f hS 0 rfl (lb9 rfl) rfl ?_); (conv => whnf); intro w1 hS) | (refine dr9 hS ?_; intro w1 hS) | refine br_t (by assumption) ?_ | refine br_f (by assumption) ?_)
    (conv => whnf)
    have h2 := hS.fr (List.Sublist.refl _)
    rw [List.append_nil] at h2
    refine ⟨L2, ?_, h2⟩
    simpa only [List.append_assoc, hxe, List.length_map] using hW2
  · rw [restT5 hk]
    rw [mayR5 hk] at hm
    have g1 : (x.k == 1) = false := by rw [hk]; rfl
    have g2 : (x.k == 2) = false := by rw [hk]; rfl
    have g3 : (x.k == 3) = false := by rw [hk]; rfl
    have g4 : (x.k == 4) = false := by rw [hk]; rfl
    have g5 : (x.k == 5) = true := by rw [hk]; rfl
    have g6 : (x.k == 6) = false := by rw [hk]; rfl
    have g7 : (x.k == 7) = false := by rw [hk]; rfl
    have g8 : (x.k == 8) = false := by rw [hk]; rfl
    rw [Bool.and_eq_true] at hm
    have hp := namedB_len hm.1
    have hpt : (pathT x.p).length ≤ 37 := by unfold pathT; rw [List.length_append, be_len]; omega
    have hvk : okV x.v = true := by have := hm.2; unfold verB at this; simp only [Bool.and_eq_true] at this; exact this.2.2.2.2
    refine fc_i TB_ok Tryz.func35 rfl (by kernel_rfl) ?_
    have hS : Sf (keys L) w w (L ++ []) [] := ⟨by simpa using hS⟩
    repeat ((conv => whnf); first | (apply q_i; focus (intro w1 hS; (conv => whnf); first | exact ⟨rfl, rfl⟩ | ((first | refine ld_f hS 0 rfl rfl ?_ | refine ldA_f hS 0 rfl rfl ?_); (conv => whnf); exact ⟨rfl, rfl⟩) | ((refine ldN_f hS 0 rfl (lb9 rfl) ?_); (conv => whnf); exact ⟨rfl, rfl⟩) | ((refine br_t (by assumption) ?_); (conv => whnf); exact ⟨rfl, rfl⟩) | ((refine br_f (by assumption) ?_); (conv => whnf); exact ⟨rfl, rfl⟩))) | (refine nw_f hS ?_; intro b w1 hS) | refine as_i hS ?_ | refine as_i (hS.subs (List.nil_sublist _) sb9) ?_ | refine as_i (hS.subs (List.Sublist.refl _) sb9) ?_ | refine bar_f hS ?_ | refine ld_f hS 0 rfl rfl ?_ | refine ldA_f hS 0 rfl rfl ?_ | ((first | refine stN_f hS 0 rfl (lb9 rfl) rfl rfl ?_ | refine stM_f hS 0 rfl (lb9 rfl) rfl ?_); (conv => whnf); intro w1 hS) | refine ldN_f hS 0 rfl (lb9 rfl) ?_ | refine br_t (by assumption) ?_ | refine br_f (by assumption) ?_ | (refine dr9 hS ?_; intro w1 hS) | refine br_t (by assumption) ?_ | refine br_f (by assumption) ?_)
    (conv => whnf)
    refine fc_m (w8_c _ _ L hW x.k ho.k.1 (by have := ho.k; omega) _ hS.ownF (by omega)) ?_
    rintro u w3 ⟨L0, hW0, hS'⟩
    replace hS := hS.callW hS'
    repeat ((conv => whnf); first | (apply q_i; focus (intro w1 hS; (conv => whnf); first | exact ⟨rfl, rfl⟩ | ((first | refine ld_f hS 0 rfl rfl ?_ | refine ldA_f hS 0 rfl rfl ?_); (conv => whnf); exact ⟨rfl, rfl⟩) | ((refine ldN_f hS 0 rfl (lb9 rfl) ?_); (conv => whnf); exact ⟨rfl, rfl⟩) | ((refine br_t (by assumption) ?_); (conv => whnf); exact ⟨rfl, rfl⟩) | ((refine br_f (by assumption) ?_); (conv => whnf); exact ⟨rfl, rfl⟩))) | (refine nw_f hS ?_; intro b w1 hS) | refine as_i hS ?_ | refine as_i (hS.subs (List.nil_sublist _) sb9) ?_ | refine as_i (hS.subs (List.Sublist.refl _) sb9) ?_ | refine bar_f hS ?_ | refine ld_f hS 0 rfl rfl ?_ | refine ldA_f hS 0 rfl rfl ?_ | ((first | refine stN_f hS 0 rfl (lb9 rfl) rfl rfl ?_ | refine stM_f hS 0 rfl (lb9 rfl) rfl ?_); (conv => whnf); intro w1 hS) | refine ldN_f hS 0 rfl (lb9 rfl) ?_ | refine br_t (by assumption) ?_ | refine br_f (by assumption) ?_ | (refine dr9 hS ?_; intro w1 hS) | refine br_t (by assumption) ?_ | refine br_f (by assumption) ?_)
    (conv => whnf)
    refine fc_m (putPath_c _ _ L0 hW0 x.p (by omega) _ hS.ownF (by simp only [List.length_append, be_len]; omega)) ?_
    rintro u w3 ⟨L1, hW1, hS'⟩
    replace hS := hS.callW hS'
    repeat ((conv => whnf); first | (apply q_i; focus (intro w1 hS; (conv => whnf); first | exact ⟨rfl, rfl⟩ | ((first | refine ld_f hS 0 rfl rfl ?_ | refine ldA_f hS 0 rfl rfl ?_); (conv => whnf); exact ⟨rfl, rfl⟩) | ((refine ldN_f hS 0 rfl (lb9 rfl) ?_); (conv => whnf); exact ⟨rfl, rfl⟩) | ((refine br_t (by assumption) ?_); (conv => whnf); exact ⟨rfl, rfl⟩) | ((refine br_f (by assumption) ?_); (conv => whnf); exact ⟨rfl, rfl⟩))) | (refine nw_f hS ?_; intro b w1 hS) | refine as_i hS ?_ | refine as_i (hS.subs (List.nil_sublist _) sb9) ?_ | refine as_i (hS.subs (List.Sublist.refl _) sb9) ?_ | refine bar_f hS ?_ | refine ld_f hS 0 rfl rfl ?_ | refine ldA_f hS 0 rfl rfl ?_ | ((first | refine stN_f hS 0 rfl (lb9 rfl) rfl rfl ?_ | refine stM_f hS 0 rfl (lb9 rfl) rfl ?_); (conv => whnf); intro w1 hS) | refine ldN_f hS 0 rfl (lb9 rfl) ?_ | refine br_t (by assumption) ?_ | refine br_f (by assumption) ?_ | (refine dr9 hS ?_; intro w1 hS) | refine br_t (by assumption) ?_ | refine br_f (by assumption) ?_)
    (conv => whnf)
    refine fc_m (putVer_c _ _ L1 hW1 x.vi x.vt x.vc ho.vi ho.vt ho.vc x.v ho.v hvk h.B h.e _ (fun w' h' => (hR w' (hS.callW h').nil).v) hS.ownF (by simp only [List.length_append, be_len]; omega)) ?_
    rintro u w3 ⟨L2, hW2, hS'⟩
    replace hS := hS.callW hS'
    repeat ((conv => whnf); first | (apply q_i; focus (intro w1 hS; (conv => whnf); first | exact ⟨rfl, rfl⟩ | ((first | refine ld_f hS 0 rfl rfl ?_ | refine ldA_f hS 0 rfl rfl ?_); (conv => whnf); exact ⟨rfl, rfl⟩))) | (refine nw_f hS ?_; intro b w1 hS) | refine as_i hS ?_ | refine as_i (hS.subs (List.nil_sublist _) sb9) ?_ | refine as_i (hS.subs (List.Sublist.refl _) sb9) ?_ | refine bar_f hS ?_ | refine ld_f hS 0 rfl rfl ?_ | refine ldA_f hS 0 rfl rfl ?_ | ((first | refine stN_f hS 0 rfl (lb9 rfl) rfl rfl ?_ | refine stM_f hS 0 rfl (lb9 rfl) rfl ?_); (conv => whnf); intro w1 hS) | (refine dr9 hS ?_; intro w1 hS) | refine br_t (by assumption) ?_ | refine br_f (by assumption) ?_)
    (conv => whnf)
    have h2 := hS.fr (List.Sublist.refl _)
    rw [List.append_nil] at h2
    refine ⟨L2, ?_, h2⟩
    simpa only [List.append_assoc] using hW2
  · rw [restT6 hk]
    rw [mayR6 hk] at hm
    have g1 : (x.k == 1) = false := by rw [hk]; rfl
    have g2 : (x.k == 2) = false := by rw [hk]; rfl
    have g3 : (x.k == 3) = false := by rw [hk]; rfl
    have g4 : (x.k == 4) = false := by rw [hk]; rfl
    have g5 : (x.k == 5) = false := by rw [hk]; rfl
    have g6 : (x.k == 6) = true := by rw [hk]; rfl
    have g7 : (x.k == 7) = false := by rw [hk]; rfl
    have g8 : (x.k == 8) = false := by rw [hk]; rfl
    refine fc_i TB_ok Tryz.func35 rfl (by kernel_rfl) ?_
    have hS : Sf (keys L) w w (L ++ []) [] := ⟨by simpa using hS⟩
    repeat ((conv => whnf); first | (apply q_i; focus (intro w1 hS; (conv => whnf); first | exact ⟨rfl, rfl⟩ | ((first | refine ld_f hS 0 rfl rfl ?_ | refine ldA_f hS 0 rfl rfl ?_); (conv => whnf); exact ⟨rfl, rfl⟩) | ((refine ldN_f hS 0 rfl (lb9 rfl) ?_); (conv => whnf); exact ⟨rfl, rfl⟩) | ((refine br_t (by assumption) ?_); (conv => whnf); exact ⟨rfl, rfl⟩) | ((refine br_f (by assumption) ?_); (conv => whnf); exact ⟨rfl, rfl⟩))) | (refine nw_f hS ?_; intro b w1 hS) | refine as_i hS ?_ | refine as_i (hS.subs (List.nil_sublist _) sb9) ?_ | refine as_i (hS.subs (List.Sublist.refl _) sb9) ?_ | refine bar_f hS ?_ | refine ld_f hS 0 rfl rfl ?_ | refine ldA_f hS 0 rfl rfl ?_ | ((first | refine stN_f hS 0 rfl (lb9 rfl) rfl rfl ?_ | refine stM_f hS 0 rfl (lb9 rfl) rfl ?_); (conv => whnf); intro w1 hS) | refine ldN_f hS 0 rfl (lb9 rfl) ?_ | refine br_t (by assumption) ?_ | refine br_f (by assumption) ?_ | (refine dr9 hS ?_; intro w1 hS) | refine br_t (by assumption) ?_ | refine br_f (by assumption) ?_)
    (conv => whnf)
    refine fc_m (w8_c _ _ L hW x.k ho.k.1 (by have := ho.k; omega) _ hS.ownF (by omega)) ?_
    rintro u w3 ⟨L0, hW0, hS'⟩
    replace hS := hS.callW hS'
    repeat ((conv => whnf); first | (apply q_i; focus (intro w1 hS; (conv => whnf); first | exact ⟨rfl, rfl⟩ | ((first | refine ld_f hS 0 rfl rfl ?_ | refine ldA_f hS 0 rfl rfl ?_); (conv => whnf); exact ⟨rfl, rfl⟩) | ((refine ldN_f hS 0 rfl (lb9 rfl) ?_); (conv => whnf); exact ⟨rfl, rfl⟩) | ((refine br_t (by assumption) ?_); (conv => whnf); exact ⟨rfl, rfl⟩) | ((refine br_f (by assumption) ?_); (conv => whnf); exact ⟨rfl, rfl⟩))) | (refine nw_f hS ?_; intro b w1 hS) | refine as_i hS ?_ | refine as_i (hS.subs (List.nil_sublist _) sb9) ?_ | refine as_i (hS.subs (List.Sublist.refl _) sb9) ?_ | refine bar_f hS ?_ | refine ld_f hS 0 rfl rfl ?_ | refine ldA_f hS 0 rfl rfl ?_ | ((first | refine stN_f hS 0 rfl (lb9 rfl) rfl rfl ?_ | refine stM_f hS 0 rfl (lb9 rfl) rfl ?_); (conv => whnf); intro w1 hS) | refine ldN_f hS 0 rfl (lb9 rfl) ?_ | refine br_t (by assumption) ?_ | refine br_f (by assumption) ?_ | (refine dr9 hS ?_; intro w1 hS) | refine br_t (by assumption) ?_ | refine br_f (by assumption) ?_)
    (conv => whnf)
    refine fc_m (w32_c _ _ L0 hW0 x.vi ho.vi.1 ho.vi.2 _ hS.ownF (by simp only [List.length_append, be_len]; omega)) ?_
    rintro u w3 ⟨L1, hW1, hS'⟩
    replace hS := hS.callW hS'
    repeat ((conv => whnf); first | (apply q_i; focus (intro w1 hS; (conv => whnf); first | exact ⟨rfl, rfl⟩ | ((first | refine ld_f hS 0 rfl rfl ?_ | refine ldA_f hS 0 rfl rfl ?_); (conv => whnf); exact ⟨rfl, rfl⟩))) | (refine nw_f hS ?_; intro b w1 hS) | refine as_i hS ?_ | refine as_i (hS.subs (List.nil_sublist _) sb9) ?_ | refine as_i (hS.subs (List.Sublist.refl _) sb9) ?_ | refine bar_f hS ?_ | refine ld_f hS 0 rfl rfl ?_ | refine ldA_f hS 0 rfl rfl ?_ | ((first | refine stN_f hS 0 rfl (lb9 rfl) rfl rfl ?_ | refine stM_f hS 0 rfl (lb9 rfl) rfl ?_); (conv => whnf); intro w1 hS) | (refine dr9 hS ?_; intro w1 hS) | refine br_t (by assumption) ?_ | refine br_f (by assumption) ?_)
    (conv => whnf)
    have h2 := hS.fr (List.Sublist.refl _)
    rw [List.append_nil] at h2
    refine ⟨L1, ?_, h2⟩
    simpa only [List.append_assoc] using hW1
  · rw [restT7 hk]
    rw [mayR7 hk] at hm
    have g1 : (x.k == 1) = false := by rw [hk]; rfl
    have g2 : (x.k == 2) = false := by rw [hk]; rfl
    have g3 : (x.k == 3) = false := by rw [hk]; rfl
    have g4 : (x.k == 4) = false := by rw [hk]; rfl
    have g5 : (x.k == 5) = false := by rw [hk]; rfl
    have g6 : (x.k == 6) = false := by rw [hk]; rfl
    have g7 : (x.k == 7) = true := by rw [hk]; rfl
    have g8 : (x.k == 8) = false := by rw [hk]; rfl
    obtain ⟨q1, q2, q3⟩ := chunkB_in hm
    refine fc_i TB_ok Tryz.func35 rfl (by kernel_rfl) ?_
    have hS : Sf (keys L) w w (L ++ []) [] := ⟨by simpa using hS⟩
    repeat ((conv => whnf); first | (apply q_i; focus (intro w1 hS; (conv => whnf); first | exact ⟨rfl, rfl⟩ | ((first | refine ld_f hS 0 rfl rfl ?_ | refine ldA_f hS 0 rfl rfl ?_); (conv => whnf); exact ⟨rfl, rfl⟩) | ((refine ldN_f hS 0 rfl (lb9 rfl) ?_); (conv => whnf); exact ⟨rfl, rfl⟩) | ((refine br_t (by assumption) ?_); (conv => whnf); exact ⟨rfl, rfl⟩) | ((refine br_f (by assumption) ?_); (conv => whnf); exact ⟨rfl, rfl⟩))) | (refine nw_f hS ?_; intro b w1 hS) | refine as_i hS ?_ | refine as_i (hS.subs (List.nil_sublist _) sb9) ?_ | refine as_i (hS.subs (List.Sublist.refl _) sb9) ?_ | refine bar_f hS ?_ | refine ld_f hS 0 rfl rfl ?_ | refine ldA_f hS 0 rfl rfl ?_ | ((first | refine stN_f hS 0 rfl (lb9 rfl) rfl rfl ?_ | refine stM_f hS 0 rfl (lb9 rfl) rfl ?_); (conv => whnf); intro w1 hS) | refine ldN_f hS 0 rfl (lb9 rfl) ?_ | refine br_t (by assumption) ?_ | refine br_f (by assumption) ?_ | (refine dr9 hS ?_; intro w1 hS) | refine br_t (by assumption) ?_ | refine br_f (by assumption) ?_)
    (conv => whnf)
    refine fc_m (w8_c _ _ L hW x.k ho.k.1 (by have := ho.k; omega) _ hS.ownF (by omega)) ?_
    rintro u w3 ⟨L0, hW0, hS'⟩
    replace hS := hS.callW hS'
    repeat ((conv => whnf); first | (apply q_i; focus (intro w1 hS; (conv => whnf); first | exact ⟨rfl, rfl⟩ | ((first | refine ld_f hS 0 rfl rfl ?_ | refine ldA_f hS 0 rfl rfl ?_); (conv => whnf); exact ⟨rfl, rfl⟩) | ((refine ldN_f hS 0 rfl (lb9 rfl) ?_); (conv => whnf); exact ⟨rfl, rfl⟩) | ((refine br_t (by assumption) ?_); (conv => whnf); exact ⟨rfl, rfl⟩) | ((refine br_f (by assumption) ?_); (conv => whnf); exact ⟨rfl, rfl⟩))) | (refine nw_f hS ?_; intro b w1 hS) | refine as_i hS ?_ | refine as_i (hS.subs (List.nil_sublist _) sb9) ?_ | refine as_i (hS.subs (List.Sublist.refl _) sb9) ?_ | refine bar_f hS ?_ | refine ld_f hS 0 rfl rfl ?_ | refine ldA_f hS 0 rfl rfl ?_ | ((first | refine stN_f hS 0 rfl (lb9 rfl) rfl rfl ?_ | refine stM_f hS 0 rfl (lb9 rfl) rfl ?_); (conv => whnf); intro w1 hS) | refine ldN_f hS 0 rfl (lb9 rfl) ?_ | refine br_t (by assumption) ?_ | refine br_f (by assumption) ?_ | (refine dr9 hS ?_; intro w1 hS) | refine br_t (by assumption) ?_ | refine br_f (by assumption) ?_)
    (conv => whnf)
    refine fc_m (w32_c _ _ L0 hW0 x.ci ho.ci.1 ho.ci.2 _ hS.ownF (by simp only [List.length_append, be_len]; omega)) ?_
    rintro u w3 ⟨L1, hW1, hS'⟩
    replace hS := hS.callW hS'
    repeat ((conv => whnf); first | (apply q_i; focus (intro w1 hS; (conv => whnf); first | exact ⟨rfl, rfl⟩ | ((first | refine ld_f hS 0 rfl rfl ?_ | refine ldA_f hS 0 rfl rfl ?_); (conv => whnf); exact ⟨rfl, rfl⟩) | ((refine ldN_f hS 0 rfl (lb9 rfl) ?_); (conv => whnf); exact ⟨rfl, rfl⟩) | ((refine br_t (by assumption) ?_); (conv => whnf); exact ⟨rfl, rfl⟩) | ((refine br_f (by assumption) ?_); (conv => whnf); exact ⟨rfl, rfl⟩))) | (refine nw_f hS ?_; intro b w1 hS) | refine as_i hS ?_ | refine as_i (hS.subs (List.nil_sublist _) sb9) ?_ | refine as_i (hS.subs (List.Sublist.refl _) sb9) ?_ | refine bar_f hS ?_ | refine ld_f hS 0 rfl rfl ?_ | refine ldA_f hS 0 rfl rfl ?_ | ((first | refine stN_f hS 0 rfl (lb9 rfl) rfl rfl ?_ | refine stM_f hS 0 rfl (lb9 rfl) rfl ?_); (conv => whnf); intro w1 hS) | refine ldN_f hS 0 rfl (lb9 rfl) ?_ | refine br_t (by assumption) ?_ | refine br_f (by assumption) ?_ | (refine dr9 hS ?_; intro w1 hS) | refine br_t (by assumption) ?_ | refine br_f (by assumption) ?_)
    (conv => whnf)
    refine fc_m (w16u_c _ _ L1 hW1 x.cb q1.1 (by omega) _ hS.ownF (by simp only [List.length_append, be_len]; omega)) ?_
    rintro u w3 ⟨L2, hW2, hS'⟩
    replace hS := hS.callW hS'
    repeat ((conv => whnf); first | (apply q_i; focus (intro w1 hS; (conv => whnf); first | exact ⟨rfl, rfl⟩ | ((first | refine ld_f hS 0 rfl rfl ?_ | refine ldA_f hS 0 rfl rfl ?_); (conv => whnf); exact ⟨rfl, rfl⟩) | ((refine ldN_f hS 0 rfl (lb9 rfl) ?_); (conv => whnf); exact ⟨rfl, rfl⟩) | ((refine br_t (by assumption) ?_); (conv => whnf); exact ⟨rfl, rfl⟩) | ((refine br_f (by assumption) ?_); (conv => whnf); exact ⟨rfl, rfl⟩))) | (refine nw_f hS ?_; intro b w1 hS) | refine as_i hS ?_ | refine as_i (hS.subs (List.nil_sublist _) sb9) ?_ | refine as_i (hS.subs (List.Sublist.refl _) sb9) ?_ | refine bar_f hS ?_ | refine ld_f hS 0 rfl rfl ?_ | refine ldA_f hS 0 rfl rfl ?_ | ((first | refine stN_f hS 0 rfl (lb9 rfl) rfl rfl ?_ | refine stM_f hS 0 rfl (lb9 rfl) rfl ?_); (conv => whnf); intro w1 hS) | refine ldN_f hS 0 rfl (lb9 rfl) ?_ | refine br_t (by assumption) ?_ | refine br_f (by assumption) ?_ | (refine dr9 hS ?_; intro w1 hS) | refine br_t (by assumption) ?_ | refine br_f (by assumption) ?_)
    (conv => whnf)
    refine fc_m (w16u_c _ _ L2 hW2 x.cr q2.1 (by omega) _ hS.ownF (by simp only [List.length_append, be_len]; omega)) ?_
    rintro u w3 ⟨L3, hW3, hS'⟩
    replace hS := hS.callW hS'
    repeat ((conv => whnf); first | (apply q_i; focus (intro w1 hS; (conv => whnf); first | exact ⟨rfl, rfl⟩ | ((first | refine ld_f hS 0 rfl rfl ?_ | refine ldA_f hS 0 rfl rfl ?_); (conv => whnf); exact ⟨rfl, rfl⟩) | ((refine ldN_f hS 0 rfl (lb9 rfl) ?_); (conv => whnf); exact ⟨rfl, rfl⟩) | ((refine br_t (by assumption) ?_); (conv => whnf); exact ⟨rfl, rfl⟩) | ((refine br_f (by assumption) ?_); (conv => whnf); exact ⟨rfl, rfl⟩))) | (refine nw_f hS ?_; intro b w1 hS) | refine as_i hS ?_ | refine as_i (hS.subs (List.nil_sublist _) sb9) ?_ | refine as_i (hS.subs (List.Sublist.refl _) sb9) ?_ | refine bar_f hS ?_ | refine ld_f hS 0 rfl rfl ?_ | refine ldA_f hS 0 rfl rfl ?_ | ((first | refine stN_f hS 0 rfl (lb9 rfl) rfl rfl ?_ | refine stM_f hS 0 rfl (lb9 rfl) rfl ?_); (conv => whnf); intro w1 hS) | refine ldN_f hS 0 rfl (lb9 rfl) ?_ | refine br_t (by assumption) ?_ | refine br_f (by assumption) ?_ | (refine dr9 hS ?_; intro w1 hS) | refine br_t (by assumption) ?_ | refine br_f (by assumption) ?_)
    (conv => whnf)
    refine fc_m (w8u_c _ _ L3 hW3 x.cs q3.1 (by omega) _ hS.ownF (by simp only [List.length_append, be_len]; omega)) ?_
    rintro u w3 ⟨L4, hW4, hS'⟩
    replace hS := hS.callW hS'
    repeat ((conv => whnf); first | (apply q_i; focus (intro w1 hS; (conv => whnf); first | exact ⟨rfl, rfl⟩ | ((first | refine ld_f hS 0 rfl rfl ?_ | refine ldA_f hS 0 rfl rfl ?_); (conv => whnf); exact ⟨rfl, rfl⟩))) | (refine nw_f hS ?_; intro b w1 hS) | refine as_i hS ?_ | refine as_i (hS.subs (List.nil_sublist _) sb9) ?_ | refine as_i (hS.subs (List.Sublist.refl _) sb9) ?_ | refine bar_f hS ?_ | refine ld_f hS 0 rfl rfl ?_ | refine ldA_f hS 0 rfl rfl ?_ | ((first | refine stN_f hS 0 rfl (lb9 rfl) rfl rfl ?_ | refine stM_f hS 0 rfl (lb9 rfl) rfl ?_); (conv => whnf); intro w1 hS) | (refine dr9 hS ?_; intro w1 hS) | refine br_t (by assumption) ?_ | refine br_f (by assumption) ?_)
    (conv => whnf)
    have h2 := hS.fr (List.Sublist.refl _)
    rw [List.append_nil] at h2
    refine ⟨L4, ?_, h2⟩
    simpa only [List.append_assoc] using hW4
  · rw [restT8 hk]
    rw [mayR8 hk] at hm
    have g1 : (x.k == 1) = false := by rw [hk]; rfl
    have g2 : (x.k == 2) = false := by rw [hk]; rfl
    have g3 : (x.k == 3) = false := by rw [hk]; rfl
    have g4 : (x.k == 4) = false := by rw [hk]; rfl
    have g5 : (x.k == 5) = false := by rw [hk]; rfl
    have g6 : (x.k == 6) = false := by rw [hk]; rfl
    have g7 : (x.k == 7) = false := by rw [hk]; rfl
    have g8 : (x.k == 8) = true := by rw [hk]; rfl
    rw [Bool.and_eq_true, Bool.and_eq_true] at hm
    have hp := namedB_len hm.2.1
    have hpt : (pathT x.p).length ≤ 37 := by unfold pathT; rw [List.length_append, be_len]; omega
    refine fc_i TB_ok Tryz.func35 rfl (by kernel_rfl) ?_
    have hS : Sf (keys L) w w (L ++ []) [] := ⟨by simpa using hS⟩
    repeat ((conv => whnf); first | (apply q_i; focus (intro w1 hS; (conv => whnf); first | exact ⟨rfl, rfl⟩ | ((first | refine ld_f hS 0 rfl rfl ?_ | refine ldA_f hS 0 rfl rfl ?_); (conv => whnf); exact ⟨rfl, rfl⟩) | ((refine ldN_f hS 0 rfl (lb9 rfl) ?_); (conv => whnf); exact ⟨rfl, rfl⟩) | ((refine br_t (by assumption) ?_); (conv => whnf); exact ⟨rfl, rfl⟩) | ((refine br_f (by assumption) ?_); (conv => whnf); exact ⟨rfl, rfl⟩))) | (refine nw_f hS ?_; intro b w1 hS) | refine as_i hS ?_ | refine as_i (hS.subs (List.nil_sublist _) sb9) ?_ | refine as_i (hS.subs (List.Sublist.refl _) sb9) ?_ | refine bar_f hS ?_ | refine ld_f hS 0 rfl rfl ?_ | refine ldA_f hS 0 rfl rfl ?_ | ((first | refine stN_f hS 0 rfl (lb9 rfl) rfl rfl ?_ | refine stM_f hS 0 rfl (lb9 rfl) rfl ?_); (conv => whnf); intro w1 hS) | refine ldN_f hS 0 rfl (lb9 rfl) ?_ | refine br_t (by assumption) ?_ | refine br_f (by assumption) ?_ | (refine dr9 hS ?_; intro w1 hS) | refine br_t (by assumption) ?_ | refine br_f (by assumption) ?_)
    (conv => whnf)
    refine fc_m (w8_c _ _ L hW x.k ho.k.1 (by have := ho.k; omega) _ hS.ownF (by omega)) ?_
    rintro u w3 ⟨L0, hW0, hS'⟩
    replace hS := hS.callW hS'
    repeat ((conv => whnf); first | (apply q_i; focus (intro w1 hS; (conv => whnf); first | exact ⟨rfl, rfl⟩ | ((first | refine ld_f hS 0 rfl rfl ?_ | refine ldA_f hS 0 rfl rfl ?_); (conv => whnf); exact ⟨rfl, rfl⟩) | ((refine ldN_f hS 0 rfl (lb9 rfl) ?_); (conv => whnf); exact ⟨rfl, rfl⟩) | ((refine br_t (by assumption) ?_); (conv => whnf); exact ⟨rfl, rfl⟩) | ((refine br_f (by assumption) ?_); (conv => whnf); exact ⟨rfl, rfl⟩))) | (refine nw_f hS ?_; intro b w1 hS) | refine as_i hS ?_ | refine as_i (hS.subs (List.nil_sublist _) sb9) ?_ | refine as_i (hS.subs (List.Sublist.refl _) sb9) ?_ | refine bar_f hS ?_ | refine ld_f hS 0 rfl rfl ?_ | refine ldA_f hS 0 rfl rfl ?_ | ((first | refine stN_f hS 0 rfl (lb9 rfl) rfl rfl ?_ | refine stM_f hS 0 rfl (lb9 rfl) rfl ?_); (conv => whnf); intro w1 hS) | refine ldN_f hS 0 rfl (lb9 rfl) ?_ | refine br_t (by assumption) ?_ | refine br_f (by assumption) ?_ | (refine dr9 hS ?_; intro w1 hS) | refine br_t (by assumption) ?_ | refine br_f (by assumption) ?_)
    (conv => whnf)
    refine fc_m (w8_c _ _ L0 hW0 x.r ho.r.1 (by have := ho.r; omega) _ hS.ownF (by simp only [List.length_append, be_len]; omega)) ?_
    rintro u w3 ⟨L1, hW1, hS'⟩
    replace hS := hS.callW hS'
    repeat ((conv => whnf); first | (apply q_i; focus (intro w1 hS; (conv => whnf); first | exact ⟨rfl, rfl⟩ | ((first | refine ld_f hS 0 rfl rfl ?_ | refine ldA_f hS 0 rfl rfl ?_); (conv => whnf); exact ⟨rfl, rfl⟩) | ((refine ldN_f hS 0 rfl (lb9 rfl) ?_); (conv => whnf); exact ⟨rfl, rfl⟩) | ((refine br_t (by assumption) ?_); (conv => whnf); exact ⟨rfl, rfl⟩) | ((refine br_f (by assumption) ?_); (conv => whnf); exact ⟨rfl, rfl⟩))) | (refine nw_f hS ?_; intro b w1 hS) | refine as_i hS ?_ | refine as_i (hS.subs (List.nil_sublist _) sb9) ?_ | refine as_i (hS.subs (List.Sublist.refl _) sb9) ?_ | refine bar_f hS ?_ | refine ld_f hS 0 rfl rfl ?_ | refine ldA_f hS 0 rfl rfl ?_ | ((first | refine stN_f hS 0 rfl (lb9 rfl) rfl rfl ?_ | refine stM_f hS 0 rfl (lb9 rfl) rfl ?_); (conv => whnf); intro w1 hS) | refine ldN_f hS 0 rfl (lb9 rfl) ?_ | refine br_t (by assumption) ?_ | refine br_f (by assumption) ?_ | (refine dr9 hS ?_; intro w1 hS) | refine br_t (by assumption) ?_ | refine br_f (by assumption) ?_)
    (conv => whnf)
    refine fc_m (putPath_c _ _ L1 hW1 x.p (by omega) _ hS.ownF (by simp only [List.length_append, be_len]; omega)) ?_
    rintro u w3 ⟨L2, hW2, hS'⟩
    replace hS := hS.callW hS'
    repeat ((conv => whnf); first | (apply q_i; focus (intro w1 hS; (conv => whnf); first | exact ⟨rfl, rfl⟩ | ((first | refine ld_f hS 0 rfl rfl ?_ | refine ldA_f hS 0 rfl rfl ?_); (conv => whnf); exact ⟨rfl, rfl⟩) | ((refine ldN_f hS 0 rfl (lb9 rfl) ?_); (conv => whnf); exact ⟨rfl, rfl⟩) | ((refine br_t (by assumption) ?_); (conv => whnf); exact ⟨rfl, rfl⟩) | ((refine br_f (by assumption) ?_); (conv => whnf); exact ⟨rfl, rfl⟩))) | (refine nw_f hS ?_; intro b w1 hS) | refine as_i hS ?_ | refine as_i (hS.subs (List.nil_sublist _) sb9) ?_ | refine as_i (hS.subs (List.Sublist.refl _) sb9) ?_ | refine bar_f hS ?_ | refine ld_f hS 0 rfl rfl ?_ | refine ldA_f hS 0 rfl rfl ?_ | ((first | refine stN_f hS 0 rfl (lb9 rfl) rfl rfl ?_ | refine stM_f hS 0 rfl (lb9 rfl) rfl ?_); (conv => whnf); intro w1 hS) | refine ldN_f hS 0 rfl (lb9 rfl) ?_ | refine br_t (by assumption) ?_ | refine br_f (by assumption) ?_ | (refine dr9 hS ?_; intro w1 hS) | refine br_t (by assumption) ?_ | refine br_f (by assumption) ?_)
    (conv => whnf)
    refine fc_m (putVec_c _ _ L2 hW2 x.g (fun j hj => ⟨(ho.g j hj).1, mayVB_le hm.2.2 j hj⟩) _ hS.ownF (by simp only [List.length_append, be_len]; omega)) ?_
    rintro u w3 ⟨L3, hW3, hS'⟩
    replace hS := hS.callW hS'
    repeat ((conv => whnf); first | (apply q_i; focus (intro w1 hS; (conv => whnf); first | exact ⟨rfl, rfl⟩ | ((first | refine ld_f hS 0 rfl rfl ?_ | refine ldA_f hS 0 rfl rfl ?_); (conv => whnf); exact ⟨rfl, rfl⟩))) | (refine nw_f hS ?_; intro b w1 hS) | refine as_i hS ?_ | refine as_i (hS.subs (List.nil_sublist _) sb9) ?_ | refine as_i (hS.subs (List.Sublist.refl _) sb9) ?_ | refine bar_f hS ?_ | refine ld_f hS 0 rfl rfl ?_ | refine ldA_f hS 0 rfl rfl ?_ | ((first | refine stN_f hS 0 rfl (lb9 rfl) rfl rfl ?_ | refine stM_f hS 0 rfl (lb9 rfl) rfl ?_); (conv => whnf); intro w1 hS) | (refine dr9 hS ?_; intro w1 hS) | refine br_t (by assumption) ?_ | refine br_f (by assumption) ?_)
    (conv => whnf)
    have h2 := hS.fr (List.Sublist.refl _)
    rw [List.append_nil] at h2
    refine ⟨L3, ?_, h2⟩
    simpa only [List.append_assoc] using hW3
end Go.RV


set_option maxRecDepth 20000
set_option linter.unusedVariables false
set_option linter.unusedSimpArgs false
namespace Go.RV
open Go Go.Proofs Go.RowKit

structure Rm where
  x : Rx
  h : Hd
  ms : List Sm
def encRm (m : Rm) : List Value := recL m.x m.h
theorem encRm_len (m : Rm) : (encRm m).length = 36 := rfl
theorem encRm_one (m : Rm) : ∀ y ∈ encRm m, one y = true := recL_one m.x m.h
structure RdR (w : World) (A : Option Addr) (rs : List Rm) : Prop where
  rd : Rd w A (flat encRm rs)
  el : ∀ r ∈ rs, MemR w r.x r.h r.ms
theorem RdR.below {w w' : World} {A : Option Addr} {rs : List Rm} (h : RdR w A rs) (hS : St [] w w' []) : RdR w' A rs := ⟨h.rd.below hS, fun m hm => (h.el m hm).below hS⟩
theorem flatT_len : ∀ (xs : List Rx), (∀ x ∈ xs, checkR x = true) → (xs.flatMap recT).length ≤ 300 * xs.length
  | [], _ => Nat.le_refl _
  | x :: xs, h => by
    have ih := flatT_len xs (fun y hy => h y (by simp [hy]))
    have h1 := recT_len (h x (by simp))
    show (recT x ++ xs.flatMap recT).length ≤ _
    rw [List.length_append, List.length_cons]
    omega
theorem putR_no {xs : List Rx} {i : Nat} (hi : i < xs.length) (h : checkR xs[i] = false) : putR xs = ([], 4) := by
  unfold putR
  rw [if_neg]
  intro ha
  rw [List.all_eq_true] at ha
  rw [ha _ (List.getElem_mem hi)] at h
  cases h
theorem putR_yes {xs : List Rx} (h : ∀ x ∈ xs, checkR x = true) : putR xs = (xs.flatMap recT, 0) := by
  unfold putR
  rw [if_pos (List.all_eq_true.2 h)]
theorem putR_c (A : Option Addr) (c : Nat) (rs : List Rm) (ho : ∀ r ∈ rs, okR r.x ∧ szR r.x) (hl : rs.length ≤ 1000000) (w : World) (hR : RdR w A rs) :
    Fc Tryz.prog 13 [.slice A rs.length c] w fun v w' => v = .tuple #[.string (strY (putR (rs.map Rm.x)).1), .int .i64 (putR (rs.map Rm.x)).2] ∧ St [] w w' [] := by
  refine fc_i TB_ok Tryz.func13 rfl (by kernel_rfl) ?_
  have hS := Sf.refl w
  repeat ((conv => whnf); first | (apply q_i; focus (intro w1 hS; (conv => whnf); first | exact ⟨rfl, rfl⟩ | ((first | refine ld_f hS 0 rfl rfl ?_ | refine ldA_f hS 0 rfl rfl ?_); (conv => whnf); exact ⟨rfl, rfl⟩))) | (refine nw_f hS ?_; intro b w1 hS) | refine as_i hS ?_ | refine as_i (hS.subs (List.nil_sublist _) sb9) ?_ | refine as_i (hS.subs (List.Sublist.refl _) sb9) ?_ | refine bar_f hS ?_ | refine ld_f hS 0 rfl rfl ?_ | refine ldA_f hS 0 rfl rfl ?_ | ((first | refine stN_f hS 0 rfl (lb9 rfl) rfl rfl ?_ | refine stM_f hS 0 rfl (lb9 rfl) rfl ?_); (conv => whnf); intro w1 hS) | (refine dr9 hS ?_; intro w1 hS) | refine br_t (by assumption) ?_ | refine br_f (by assumption) ?_)
  replace hS := hS.put
  rename Nat => bw
  refine loop_i TB_ok (fun i : Nat => [(12, .int .i64 i)]) (fun i w' => i ≤ rs.length ∧ (∀ x ∈ (rs.map Rm.x).take i, checkR x = true) ∧ ∃ L', Wr bw (((rs.map Rm.x).take i).flatMap recT) L' ∧ Sf [] w w' (L' ++ []) []) (fun i => rs.length - i) 0 rfl ⟨Nat.zero_le _, by simp, _, Wr.new _, hS⟩ ?_
  rintro i us w2 ⟨hi, hall, L1, hW1, hS⟩
  (conv => whnf)
  refine br_i (fun hb => ?_) (fun hb => ?_)
  · have hlt : i < rs.length := by have := of_decide_eq_true hb; omega
    obtain ⟨x0, off, rfl⟩ := hR.rd.form (flat_ne encRm_len (by omega) hlt)
    have hmem := List.getElem_mem hlt
    have hoi := ho _ hmem
    have hfl := flatT_len _ hall
    rw [List.length_take, List.length_map] at hfl
    have hck := fun w' => check18_c rs[i].x hoi.1 hoi.2 rs[i].h rs[i].ms w'
    cases hc : checkR rs[i].x with
    | false =>
      rw [hc] at hck
      repeat ((conv => whnf); first | (apply q_i; focus (intro w1 hS; (conv => whnf); first | exact ⟨rfl, rfl⟩ | ((first | refine ld_f hS 0 rfl rfl ?_ | refine ldA_f hS 0 rfl rfl ?_); (conv => whnf); exact ⟨rfl, rfl⟩) | ((refine .mk ⟨by omega, by omega⟩ ?_; refine ix_i rfl ?_); (conv => whnf); exact ⟨rfl, rfl⟩) | ((refine ldN_el encRm_len (hR.rd.below hS.nil).at (i := i) hlt rfl rfl ?_); (conv => whnf); exact ⟨rfl, rfl⟩))) | (refine nw_f hS ?_; intro b w1 hS) | refine as_i hS ?_ | refine as_i (hS.subs (List.nil_sublist _) sb9) ?_ | refine as_i (hS.subs (List.Sublist.refl _) sb9) ?_ | refine bar_f hS ?_ | refine ld_f hS 0 rfl rfl ?_ | refine ldA_f hS 0 rfl rfl ?_ | ((first | refine stN_f hS 0 rfl (lb9 rfl) rfl rfl ?_ | refine stM_f hS 0 rfl (lb9 rfl) rfl ?_); (conv => whnf); intro w1 hS) | (refine .mk ⟨by omega, by omega⟩ ?_; refine ix_i rfl ?_) | refine ldN_el encRm_len (hR.rd.below hS.nil).at (i := i) hlt rfl rfl ?_ | (refine fc_m (hck _ ((hR.el _ hmem).below hS.nil)) ?_; rintro v w3 ⟨rfl, hS'⟩; replace hS := hS.call0 hS') | (refine dr9 hS ?_; intro w1 hS) | refine br_t (by assumption) ?_ | refine br_f (by assumption) ?_)
      refine ⟨?_, hS.nil⟩
      rw [putR_no (i := i) (by simpa using hlt) (by simpa using hc)]
      rfl
    | true =>
      rw [hc] at hck
      repeat ((conv => whnf); first | (apply q_i; focus (intro w1 hS; (conv => whnf); first | exact ⟨rfl, rfl⟩ | ((first | refine ld_f hS 0 rfl rfl ?_ | refine ldA_f hS 0 rfl rfl ?_); (conv => whnf); exact ⟨rfl, rfl⟩) | ((refine .mk ⟨by omega, by omega⟩ ?_; refine ix_i rfl ?_); (conv => whnf); exact ⟨rfl, rfl⟩) | ((refine ldN_el encRm_len (hR.rd.below hS.nil).at (i := i) hlt rfl rfl ?_); (conv => whnf); exact ⟨rfl, rfl⟩))) | (refine nw_f hS ?_; intro b w1 hS) | refine as_i hS ?_ | refine as_i (hS.subs (List.nil_sublist _) sb9) ?_ | refine as_i (hS.subs (List.Sublist.refl _) sb9) ?_ | refine bar_f hS ?_ | refine ld_f hS 0 rfl rfl ?_ | refine ldA_f hS 0 rfl rfl ?_ | ((first | refine stN_f hS 0 rfl (lb9 rfl) rfl rfl ?_ | refine stM_f hS 0 rfl (lb9 rfl) rfl ?_); (conv => whnf); intro w1 hS) | (refine .mk ⟨by omega, by omega⟩ ?_; refine ix_i rfl ?_) | refine ldN_el encRm_len (hR.rd.below hS.nil).at (i := i) hlt rfl rfl ?_ | (refine fc_m (hck _ ((hR.el _ hmem).below hS.nil)) ?_; rintro v w3 ⟨rfl, hS'⟩; replace hS := hS.call0 hS') | (refine dr9 hS ?_; intro w1 hS) | refine br_t (by assumption) ?_ | refine br_f (by assumption) ?_)
      (conv => whnf)
      refine fc_m (put18_c bw _ L1 hW1 rs[i].x hoi.1 hc rs[i].h rs[i].ms _ (fun w' h' => (hR.el _ hmem).below (hS.callW h').nil) hS.ownF (by omega)) ?_
      rintro u w5 ⟨L2, hW2, hS'⟩
      replace hS := hS.callW hS'
      repeat ((conv => whnf); first | (apply q_i; focus (intro w1 hS; (conv => whnf); first | exact ⟨rfl, rfl⟩ | ((first | refine ld_f hS 0 rfl rfl ?_ | refine ldA_f hS 0 rfl rfl ?_); (conv => whnf); exact ⟨rfl, rfl⟩))) | (refine nw_f hS ?_; intro b w1 hS) | refine as_i hS ?_ | refine as_i (hS.subs (List.nil_sublist _) sb9) ?_ | refine as_i (hS.subs (List.Sublist.refl _) sb9) ?_ | refine bar_f hS ?_ | refine ld_f hS 0 rfl rfl ?_ | refine ldA_f hS 0 rfl rfl ?_ | ((first | refine stN_f hS 0 rfl (lb9 rfl) rfl rfl ?_ | refine stM_f hS 0 rfl (lb9 rfl) rfl ?_); (conv => whnf); intro w1 hS) | (refine dr9 hS ?_; intro w1 hS) | refine br_t (by assumption) ?_ | refine br_f (by assumption) ?_)
      refine ⟨rfl, i + 1, ?_, ⟨by omega, ?_, L2, ?_, hS.subs (List.Sublist.refl _) (List.nil_sublist _)⟩, by omega⟩
      · rw [wi hlt (by omega)]
        rfl
      · rw [List.take_succ_eq_append_getElem (by simpa using hlt), List.getElem_map]
        intro x hx
        rcases List.mem_append.1 hx with h | h
        · exact hall x h
        · obtain rfl := List.mem_singleton.1 h
          exact hc
      · rw [List.take_succ_eq_append_getElem (by simpa using hlt), List.flatMap_append, List.getElem_map]
        simpa using hW2
  · have hge : i = rs.length := by have := of_decide_eq_false hb; omega
    subst hge
    rw [List.take_of_length_le (by simp)] at hW1 hall
    repeat ((conv => whnf); first | (apply q_i; focus (intro w1 hS; (conv => whnf); first | exact ⟨rfl, rfl⟩ | ((first | refine ld_f hS 0 rfl rfl ?_ | refine ldA_f hS 0 rfl rfl ?_); (conv => whnf); exact ⟨rfl, rfl⟩))) | (refine nw_f hS ?_; intro b w1 hS) | refine as_i hS ?_ | refine as_i (hS.subs (List.nil_sublist _) sb9) ?_ | refine as_i (hS.subs (List.Sublist.refl _) sb9) ?_ | refine bar_f hS ?_ | refine ld_f hS 0 rfl rfl ?_ | refine ldA_f hS 0 rfl rfl ?_ | ((first | refine stN_f hS 0 rfl (lb9 rfl) rfl rfl ?_ | refine stM_f hS 0 rfl (lb9 rfl) rfl ?_); (conv => whnf); intro w1 hS) | (refine dr9 hS ?_; intro w1 hS) | refine br_t (by assumption) ?_ | refine br_f (by assumption) ?_)
    (conv => whnf)
    refine fc_m (bytes_c _ _ L1 hW1 _ hS.ownF) ?_
    rintro v w10 ⟨rfl, hS'⟩
    replace hS := hS.call0 hS'
    repeat ((conv => whnf); first | (apply q_i; focus (intro w1 hS; (conv => whnf); first | exact ⟨rfl, rfl⟩ | ((first | refine ld_f hS 0 rfl rfl ?_ | refine ldA_f hS 0 rfl rfl ?_); (conv => whnf); exact ⟨rfl, rfl⟩))) | (refine nw_f hS ?_; intro b w1 hS) | refine as_i hS ?_ | refine as_i (hS.subs (List.nil_sublist _) sb9) ?_ | refine as_i (hS.subs (List.Sublist.refl _) sb9) ?_ | refine bar_f hS ?_ | refine ld_f hS 0 rfl rfl ?_ | refine ldA_f hS 0 rfl rfl ?_ | ((first | refine stN_f hS 0 rfl (lb9 rfl) rfl rfl ?_ | refine stM_f hS 0 rfl (lb9 rfl) rfl ?_); (conv => whnf); intro w1 hS) | (refine dr9 hS ?_; intro w1 hS) | refine br_t (by assumption) ?_ | refine br_f (by assumption) ?_)
    exact ⟨by rw [putR_yes hall], hS.nil⟩
end Go.RV


set_option maxRecDepth 20000
set_option linter.unusedVariables false
set_option linter.unusedSimpArgs false
namespace Go.RV
open Go Go.Proofs Go.RowKit

theorem mi_i {P : Program} {o : Oper} {ρ : Operand → Value} {t : TypeId} {x : Operand} {d : TypeDesc} {v : Value} {w : World} (ho : o.op = .makeInterface t x) (hu : P.underlying t = some d) (hd : (match d with | .interface _ => false | _ => true) = true) (hv : ρ x = v) {K : Value → World → Prop} (k : K (.iface t v) w) :
    SemN P (execOp ρ o) w (NextW P K) := by
  refine ⟨SemW.of_run (a := .value (.iface t v)) (w' := w) ?_ k⟩
  unfold execOp
  rw [ho]
  simp only [Sem.run_bind]
  unfold Instr.makeInterface
  rw [Sem.run_bind, run_underlying hu]
  cases d <;> simp_all
def wrongE (e : Int) : PanicEntry := { v := .iface 75 (.agg #[.int .i64 e]), recovered := false }
def rdV (br : Nat) : Value := .agg #[.pointer (some ⟨br, 0, none⟩)]
theorem must_c (e : Int) (w : World) : Fp Tryz.prog 31 [.int .i64 e] w (fun v w' => e = 0 ∧ St [] w w' []) (fun c w' => e ≠ 0 ∧ c = [wrongE e] ∧ St [] w w' []) := by
  refine fp_i TB_ok Tryz.func31 rfl (by kernel_rfl) ?_
  have hS := Sf.refl w
  by_cases he : e = 0
  · have g : (e != 0) = false := by simp [he]
    repeat ((conv => whnf); first | (apply q_i; focus (intro w1 hS; (conv => whnf); first | exact ⟨rfl, rfl⟩)) | (refine nw_f hS ?_; intro b w1 hS) | refine as_i hS ?_ | refine as_i (hS.subs (List.nil_sublist _) sb9) ?_ | refine as_i (hS.subs (List.Sublist.refl _) sb9) ?_ | refine bar_f hS ?_ | (refine dr9 hS ?_; intro w1 hS) | refine br_t (by assumption) ?_ | refine br_f (by assumption) ?_)
    exact ⟨he, hS.nil⟩
  · have g : (e != 0) = true := by simp [he]
    repeat ((conv => whnf); first | (apply q_i; focus (intro w1 hS; (conv => whnf); first | exact ⟨rfl, rfl⟩)) | (refine nw_f hS ?_; intro b w1 hS) | refine as_i hS ?_ | refine as_i (hS.subs (List.nil_sublist _) sb9) ?_ | refine as_i (hS.subs (List.Sublist.refl _) sb9) ?_ | refine bar_f hS ?_ | (refine dr9 hS ?_; intro w1 hS) | refine br_t (by assumption) ?_ | refine br_f (by assumption) ?_)
    refine mi_i (v := .agg #[.int .i64 e]) rfl Tryz.underlying75 rfl rfl ?_
    (conv => whnf)
    exact ⟨rfl, he, rfl, hS.nil⟩
theorem numW_lt (W : Nat) (s : RS) : 0 ≤ numW W s ∧ numW W s < 256 ^ W := numF_lt s W
theorem number_c (W : Nat) (hW : W = 1 ∨ W = 2 ∨ W = 4) (br : Nat) (s : RS) (w : World) (hS : St [br] w w [(br, rdO s)]) :
    Fp Tryz.prog 49 [rdV br, .int .i64 W] w (fun v w' => (aftW W s).e = 0 ∧ v = .int .u32 (numW W s) ∧ St [br] w w' [(br, rdO (aftW W s))]) (fun c w' => (aftW W s).e ≠ 0 ∧ c = [wrongE (aftW W s).e] ∧ St [br] w w' []) := by
  have hn := numW_lt W s
  rcases hW with rfl | rfl | rfl
  · refine fp_i TB_ok Tryz.func49 rfl (by kernel_rfl) ?_
    have hS : Sf [br] w w ([(br, rdO s)] ++ []) [] := ⟨hS⟩
    repeat ((conv => whnf); first | (apply q_i; focus (intro w1 hS; (conv => whnf); first | exact ⟨rfl, rfl⟩ | ((first | refine ld_f hS 0 rfl rfl ?_ | refine ldA_f hS 0 rfl rfl ?_); (conv => whnf); exact ⟨rfl, rfl⟩))) | (refine nw_f hS ?_; intro b w1 hS) | refine as_i hS ?_ | refine as_i (hS.subs (List.nil_sublist _) sb9) ?_ | refine as_i (hS.subs (List.Sublist.refl _) sb9) ?_ | refine bar_f hS ?_ | refine ld_f hS 0 rfl rfl ?_ | refine ldA_f hS 0 rfl rfl ?_ | ((first | refine stN_f hS 0 rfl (lb9 rfl) rfl rfl ?_ | refine stM_f hS 0 rfl (lb9 rfl) rfl ?_); (conv => whnf); intro w1 hS) | (refine dr9 hS ?_; intro w1 hS) | refine br_t (by assumption) ?_ | refine br_f (by assumption) ?_)
    refine fp_m (r8_c br s _ hS.ownF) ?_
    rintro v w1 ⟨rfl, hS'⟩
    replace hS := hS.callW hS'
    have e1 : IntKind.u32.wrap (IntKind.u8.wrap (numF 0 (fixedR s 1).1)) = numW 1 s := by
      have e2 : numF 0 (fixedR s 1).1 = numW 1 s := rfl
      rw [e2, wrap_u8 hn.1 (by have := hn.2; omega), wrap_u32 hn.1 (by have := hn.2; omega)]
    have e3 : (fixedR s 1).2 = aftW 1 s := rfl
    generalize IntKind.u8.wrap (numF 0 (fixedR s 1).1) = y at *
    rw [e3] at hS
    repeat ((conv => whnf); first | (apply q_i; focus (intro w1 hS; (conv => whnf); first | exact ⟨rfl, rfl⟩ | ((first | refine ld_f hS 0 rfl rfl ?_ | refine ldA_f hS 0 rfl rfl ?_); (conv => whnf); exact ⟨rfl, rfl⟩))) | (refine nw_f hS ?_; intro b w1 hS) | refine as_i hS ?_ | refine as_i (hS.subs (List.nil_sublist _) sb9) ?_ | refine as_i (hS.subs (List.Sublist.refl _) sb9) ?_ | refine bar_f hS ?_ | refine ld_f hS 0 rfl rfl ?_ | refine ldA_f hS 0 rfl rfl ?_ | ((first | refine stN_f hS 0 rfl (lb9 rfl) rfl rfl ?_ | refine stM_f hS 0 rfl (lb9 rfl) rfl ?_); (conv => whnf); intro w1 hS) | (refine dr9 hS ?_; intro w1 hS) | refine br_t (by assumption) ?_ | refine br_f (by assumption) ?_)
    refine fp_m (rerr_c br (aftW 1 s) _ hS.ownF) ?_
    rintro v w2 ⟨rfl, hS'⟩
    replace hS := hS.call0 hS'
    repeat ((conv => whnf); first | (apply q_i; focus (intro w1 hS; (conv => whnf); first | exact ⟨rfl, rfl⟩ | ((first | refine ld_f hS 0 rfl rfl ?_ | refine ldA_f hS 0 rfl rfl ?_); (conv => whnf); exact ⟨rfl, rfl⟩))) | (refine nw_f hS ?_; intro b w1 hS) | refine as_i hS ?_ | refine as_i (hS.subs (List.nil_sublist _) sb9) ?_ | refine as_i (hS.subs (List.Sublist.refl _) sb9) ?_ | refine bar_f hS ?_ | refine ld_f hS 0 rfl rfl ?_ | refine ldA_f hS 0 rfl rfl ?_ | ((first | refine stN_f hS 0 rfl (lb9 rfl) rfl rfl ?_ | refine stM_f hS 0 rfl (lb9 rfl) rfl ?_); (conv => whnf); intro w1 hS) | (refine dr9 hS ?_; intro w1 hS) | refine br_t (by assumption) ?_ | refine br_f (by assumption) ?_)
    refine fp_p (must_c _ _) ?_ ?_
    · rintro v w3 ⟨he, hS'⟩
      replace hS := hS.call0 hS'
      repeat ((conv => whnf); first | (apply q_i; focus (intro w1 hS; (conv => whnf); first | exact ⟨rfl, rfl⟩ | ((first | refine ld_f hS 0 rfl rfl ?_ | refine ldA_f hS 0 rfl rfl ?_); (conv => whnf); exact ⟨rfl, rfl⟩))) | (refine nw_f hS ?_; intro b w1 hS) | refine as_i hS ?_ | refine as_i (hS.subs (List.nil_sublist _) sb9) ?_ | refine as_i (hS.subs (List.Sublist.refl _) sb9) ?_ | refine bar_f hS ?_ | refine ld_f hS 0 rfl rfl ?_ | refine ldA_f hS 0 rfl rfl ?_ | ((first | refine stN_f hS 0 rfl (lb9 rfl) rfl rfl ?_ | refine stM_f hS 0 rfl (lb9 rfl) rfl ?_); (conv => whnf); intro w1 hS) | (refine dr9 hS ?_; intro w1 hS) | refine br_t (by assumption) ?_ | refine br_f (by assumption) ?_)
      rw [← e1]
      exact ⟨he, rfl, by simpa using hS.fr (List.Sublist.refl _)⟩
    · rintro c w3 ⟨he, rfl, hS'⟩
      replace hS := hS.call0 hS'
      (conv => whnf)
      exact ⟨rfl, he, rfl, hS.nil⟩
  · refine fp_i TB_ok Tryz.func49 rfl (by kernel_rfl) ?_
    have hS : Sf [br] w w ([(br, rdO s)] ++ []) [] := ⟨hS⟩
    repeat ((conv => whnf); first | (apply q_i; focus (intro w1 hS; (conv => whnf); first | exact ⟨rfl, rfl⟩ | ((first | refine ld_f hS 0 rfl rfl ?_ | refine ldA_f hS 0 rfl rfl ?_); (conv => whnf); exact ⟨rfl, rfl⟩))) | (refine nw_f hS ?_; intro b w1 hS) | refine as_i hS ?_ | refine as_i (hS.subs (List.nil_sublist _) sb9) ?_ | refine as_i (hS.subs (List.Sublist.refl _) sb9) ?_ | refine bar_f hS ?_ | refine ld_f hS 0 rfl rfl ?_ | refine ldA_f hS 0 rfl rfl ?_ | ((first | refine stN_f hS 0 rfl (lb9 rfl) rfl rfl ?_ | refine stM_f hS 0 rfl (lb9 rfl) rfl ?_); (conv => whnf); intro w1 hS) | (refine dr9 hS ?_; intro w1 hS) | refine br_t (by assumption) ?_ | refine br_f (by assumption) ?_)
    refine fp_m (r16_c br s _ hS.ownF) ?_
    rintro v w1 ⟨rfl, hS'⟩
    replace hS := hS.callW hS'
    have e1 : IntKind.u32.wrap (IntKind.u16.wrap (numF 0 (fixedR s 2).1)) = numW 2 s := by
      have e2 : numF 0 (fixedR s 2).1 = numW 2 s := rfl
      rw [e2, wrap_u16_mod, Int.emod_eq_of_lt hn.1 (by have := hn.2; omega), wrap_u32 hn.1 (by have := hn.2; omega)]
    have e3 : (fixedR s 2).2 = aftW 2 s := rfl
    generalize IntKind.u16.wrap (numF 0 (fixedR s 2).1) = y at *
    rw [e3] at hS
    repeat ((conv => whnf); first | (apply q_i; focus (intro w1 hS; (conv => whnf); first | exact ⟨rfl, rfl⟩ | ((first | refine ld_f hS 0 rfl rfl ?_ | refine ldA_f hS 0 rfl rfl ?_); (conv => whnf); exact ⟨rfl, rfl⟩))) | (refine nw_f hS ?_; intro b w1 hS) | refine as_i hS ?_ | refine as_i (hS.subs (List.nil_sublist _) sb9) ?_ | refine as_i (hS.subs (List.Sublist.refl _) sb9) ?_ | refine bar_f hS ?_ | refine ld_f hS 0 rfl rfl ?_ | refine ldA_f hS 0 rfl rfl ?_ | ((first | refine stN_f hS 0 rfl (lb9 rfl) rfl rfl ?_ | refine stM_f hS 0 rfl (lb9 rfl) rfl ?_); (conv => whnf); intro w1 hS) | (refine dr9 hS ?_; intro w1 hS) | refine br_t (by assumption) ?_ | refine br_f (by assumption) ?_)
    refine fp_m (rerr_c br (aftW 2 s) _ hS.ownF) ?_
    rintro v w2 ⟨rfl, hS'⟩
    replace hS := hS.call0 hS'
    repeat ((conv => whnf); first | (apply q_i; focus (intro w1 hS; (conv => whnf); first | exact ⟨rfl, rfl⟩ | ((first | refine ld_f hS 0 rfl rfl ?_ | refine ldA_f hS 0 rfl rfl ?_); (conv => whnf); exact ⟨rfl, rfl⟩))) | (refine nw_f hS ?_; intro b w1 hS) | refine as_i hS ?_ | refine as_i (hS.subs (List.nil_sublist _) sb9) ?_ | refine as_i (hS.subs (List.Sublist.refl _) sb9) ?_ | refine bar_f hS ?_ | refine ld_f hS 0 rfl rfl ?_ | refine ldA_f hS 0 rfl rfl ?_ | ((first | refine stN_f hS 0 rfl (lb9 rfl) rfl rfl ?_ | refine stM_f hS 0 rfl (lb9 rfl) rfl ?_); (conv => whnf); intro w1 hS) | (refine dr9 hS ?_; intro w1 hS) | refine br_t (by assumption) ?_ | refine br_f (by assumption) ?_)
    refine fp_p (must_c _ _) ?_ ?_
    · rintro v w3 ⟨he, hS'⟩
      replace hS := hS.call0 hS'
      repeat ((conv => whnf); first | (apply q_i; focus (intro w1 hS; (conv => whnf); first | exact ⟨rfl, rfl⟩ | ((first | refine ld_f hS 0 rfl rfl ?_ | refine ldA_f hS 0 rfl rfl ?_); (conv => whnf); exact ⟨rfl, rfl⟩))) | (refine nw_f hS ?_; intro b w1 hS) | refine as_i hS ?_ | refine as_i (hS.subs (List.nil_sublist _) sb9) ?_ | refine as_i (hS.subs (List.Sublist.refl _) sb9) ?_ | refine bar_f hS ?_ | refine ld_f hS 0 rfl rfl ?_ | refine ldA_f hS 0 rfl rfl ?_ | ((first | refine stN_f hS 0 rfl (lb9 rfl) rfl rfl ?_ | refine stM_f hS 0 rfl (lb9 rfl) rfl ?_); (conv => whnf); intro w1 hS) | (refine dr9 hS ?_; intro w1 hS) | refine br_t (by assumption) ?_ | refine br_f (by assumption) ?_)
      rw [← e1]
      exact ⟨he, rfl, by simpa using hS.fr (List.Sublist.refl _)⟩
    · rintro c w3 ⟨he, rfl, hS'⟩
      replace hS := hS.call0 hS'
      (conv => whnf)
      exact ⟨rfl, he, rfl, hS.nil⟩
  · refine fp_i TB_ok Tryz.func49 rfl (by kernel_rfl) ?_
    have hS : Sf [br] w w ([(br, rdO s)] ++ []) [] := ⟨hS⟩
    repeat ((conv => whnf); first | (apply q_i; focus (intro w1 hS; (conv => whnf); first | exact ⟨rfl, rfl⟩ | ((first | refine ld_f hS 0 rfl rfl ?_ | refine ldA_f hS 0 rfl rfl ?_); (conv => whnf); exact ⟨rfl, rfl⟩))) | (refine nw_f hS ?_; intro b w1 hS) | refine as_i hS ?_ | refine as_i (hS.subs (List.nil_sublist _) sb9) ?_ | refine as_i (hS.subs (List.Sublist.refl _) sb9) ?_ | refine bar_f hS ?_ | refine ld_f hS 0 rfl rfl ?_ | refine ldA_f hS 0 rfl rfl ?_ | ((first | refine stN_f hS 0 rfl (lb9 rfl) rfl rfl ?_ | refine stM_f hS 0 rfl (lb9 rfl) rfl ?_); (conv => whnf); intro w1 hS) | (refine dr9 hS ?_; intro w1 hS) | refine br_t (by assumption) ?_ | refine br_f (by assumption) ?_)
    refine fp_m (r32_c br s _ hS.ownF) ?_
    rintro v w1 ⟨rfl, hS'⟩
    replace hS := hS.callW hS'
    have e1 : numF 0 (fixedR s 4).1 = numW 4 s := rfl
    have e3 : (fixedR s 4).2 = aftW 4 s := rfl
    rw [e3] at hS
    repeat ((conv => whnf); first | (apply q_i; focus (intro w1 hS; (conv => whnf); first | exact ⟨rfl, rfl⟩ | ((first | refine ld_f hS 0 rfl rfl ?_ | refine ldA_f hS 0 rfl rfl ?_); (conv => whnf); exact ⟨rfl, rfl⟩))) | (refine nw_f hS ?_; intro b w1 hS) | refine as_i hS ?_ | refine as_i (hS.subs (List.nil_sublist _) sb9) ?_ | refine as_i (hS.subs (List.Sublist.refl _) sb9) ?_ | refine bar_f hS ?_ | refine ld_f hS 0 rfl rfl ?_ | refine ldA_f hS 0 rfl rfl ?_ | ((first | refine stN_f hS 0 rfl (lb9 rfl) rfl rfl ?_ | refine stM_f hS 0 rfl (lb9 rfl) rfl ?_); (conv => whnf); intro w1 hS) | (refine dr9 hS ?_; intro w1 hS) | refine br_t (by assumption) ?_ | refine br_f (by assumption) ?_)
    refine fp_m (rerr_c br (aftW 4 s) _ hS.ownF) ?_
    rintro v w2 ⟨rfl, hS'⟩
    replace hS := hS.call0 hS'
    repeat ((conv => whnf); first | (apply q_i; focus (intro w1 hS; (conv => whnf); first | exact ⟨rfl, rfl⟩ | ((first | refine ld_f hS 0 rfl rfl ?_ | refine ldA_f hS 0 rfl rfl ?_); (conv => whnf); exact ⟨rfl, rfl⟩))) | (refine nw_f hS ?_; intro b w1 hS) | refine as_i hS ?_ | refine as_i (hS.subs (List.nil_sublist _) sb9) ?_ | refine as_i (hS.subs (List.Sublist.refl _) sb9) ?_ | refine bar_f hS ?_ | refine ld_f hS 0 rfl rfl ?_ | refine ldA_f hS 0 rfl rfl ?_ | ((first | refine stN_f hS 0 rfl (lb9 rfl) rfl rfl ?_ | refine stM_f hS 0 rfl (lb9 rfl) rfl ?_); (conv => whnf); intro w1 hS) | (refine dr9 hS ?_; intro w1 hS) | refine br_t (by assumption) ?_ | refine br_f (by assumption) ?_)
    refine fp_p (must_c _ _) ?_ ?_
    · rintro v w3 ⟨he, hS'⟩
      replace hS := hS.call0 hS'
      repeat ((conv => whnf); first | (apply q_i; focus (intro w1 hS; (conv => whnf); first | exact ⟨rfl, rfl⟩ | ((first | refine ld_f hS 0 rfl rfl ?_ | refine ldA_f hS 0 rfl rfl ?_); (conv => whnf); exact ⟨rfl, rfl⟩))) | (refine nw_f hS ?_; intro b w1 hS) | refine as_i hS ?_ | refine as_i (hS.subs (List.nil_sublist _) sb9) ?_ | refine as_i (hS.subs (List.Sublist.refl _) sb9) ?_ | refine bar_f hS ?_ | refine ld_f hS 0 rfl rfl ?_ | refine ldA_f hS 0 rfl rfl ?_ | ((first | refine stN_f hS 0 rfl (lb9 rfl) rfl rfl ?_ | refine stM_f hS 0 rfl (lb9 rfl) rfl ?_); (conv => whnf); intro w1 hS) | (refine dr9 hS ?_; intro w1 hS) | refine br_t (by assumption) ?_ | refine br_f (by assumption) ?_)
      rw [← e1]
      exact ⟨he, rfl, by simpa using hS.fr (List.Sublist.refl _)⟩
    · rintro c w3 ⟨he, rfl, hS'⟩
      replace hS := hS.call0 hS'
      (conv => whnf)
      exact ⟨rfl, he, rfl, hS.nil⟩
section
variable {s : RS} (h : s.e ≠ 0)
include h
theorem aftW_err (W : Nat) : aftW W s = s := by unfold aftW; rw [fixedR_err h]
theorem numW_err (W : Nat) : numW W s = 0 := by unfold numW; rw [fixedR_err h]; rfl
theorem pthR_err : (pthR s).1 = s := by unfold pthR; rw [aftW_err h, fixedR_err h]
theorem vecR_err : (vecR s).1 = s := by unfold vecR; rw [numW_err h, aftW_err h, tk2_err]
end
theorem path18_c (br : Nat) (s : RS) (w : World) (hS : St [br] w w [(br, rdO s)]) :
    Fp Tryz.prog 50 [rdV br] w (fun v w' => (pthR s).1.e = 0 ∧ v = .string (strY (pthR s).2) ∧ St [br] w w' [(br, rdO (pthR s).1)]) (fun c w' => (pthR s).1.e ≠ 0 ∧ c = [wrongE (pthR s).1.e] ∧ St [br] w w' []) := by
  refine fp_i TB_ok Tryz.func50 rfl (by kernel_rfl) ?_
  have hS : Sf [br] w w ([(br, rdO s)] ++ []) [] := ⟨hS⟩
  repeat ((conv => whnf); first | (apply q_i; focus (intro w1 hS; (conv => whnf); first | exact ⟨rfl, rfl⟩ | ((first | refine ld_f hS 0 rfl rfl ?_ | refine ldA_f hS 0 rfl rfl ?_); (conv => whnf); exact ⟨rfl, rfl⟩))) | (refine nw_f hS ?_; intro b w1 hS) | refine as_i hS ?_ | refine as_i (hS.subs (List.nil_sublist _) sb9) ?_ | refine as_i (hS.subs (List.Sublist.refl _) sb9) ?_ | refine bar_f hS ?_ | refine ld_f hS 0 rfl rfl ?_ | refine ldA_f hS 0 rfl rfl ?_ | ((first | refine stN_f hS 0 rfl (lb9 rfl) rfl rfl ?_ | refine stM_f hS 0 rfl (lb9 rfl) rfl ?_); (conv => whnf); intro w1 hS) | refine br_t (by assumption) ?_ | refine br_f (by assumption) ?_)
  refine drawfP (Ls := [_]) (Fs := []) TB_ok rfl (by kernel_rfl) (by kernel_rfl) hS (List.nil_sublist _) (List.Sublist.refl _) (fun c fr fr' w h => h) ?_
  intro w1 hS
  repeat ((conv => whnf); first | (apply q_i; focus (intro w1 hS; (conv => whnf); first | exact ⟨rfl, rfl⟩ | ((first | refine ld_f hS 0 rfl rfl ?_ | refine ldA_f hS 0 rfl rfl ?_); (conv => whnf); exact ⟨rfl, rfl⟩) | ((refine ldN_f hS 0 rfl (lb9 rfl) ?_); (conv => whnf); exact ⟨rfl, rfl⟩))) | (refine nw_f hS ?_; intro b w1 hS) | refine as_i hS ?_ | refine as_i (hS.subs (List.nil_sublist _) sb9) ?_ | refine as_i (hS.subs (List.Sublist.refl _) sb9) ?_ | refine bar_f hS ?_ | refine ld_f hS 0 rfl rfl ?_ | refine ldA_f hS 0 rfl rfl ?_ | ((first | refine stN_f hS 0 rfl (lb9 rfl) rfl rfl ?_ | refine stM_f hS 0 rfl (lb9 rfl) rfl ?_); (conv => whnf); intro w1 hS) | refine ldN_f hS 0 rfl (lb9 rfl) ?_ | refine br_t (by assumption) ?_ | refine br_f (by assumption) ?_)
  refine fp_p (number_c 1 (.inl rfl) br s _ hS.ownF) ?_ ?_
  · rintro v w2 ⟨he, rfl, hS'⟩
    replace hS := hS.callW hS'
    have hn := numW_lt 1 s
    have hw : IntKind.i64.wrap (numW 1 s) = numW 1 s := wrap_i64 (by omega) (by have := hn.2; omega)
    have hf := fun w' => rfixed0_c br (aftW 1 s) (IntKind.i64.wrap (numW 1 s)) w'
    have ep : pthR s = ((fixedR (aftW 1 s) (IntKind.i64.wrap (numW 1 s))).2, (fixedR (aftW 1 s) (IntKind.i64.wrap (numW 1 s))).1) := by rw [hw]; rfl
    rw [ep]
    repeat ((conv => whnf); first | (apply q_i; focus (intro w1 hS; (conv => whnf); first | exact ⟨rfl, rfl⟩ | ((first | refine ld_f hS 0 rfl rfl ?_ | refine ldA_f hS 0 rfl rfl ?_); (conv => whnf); exact ⟨rfl, rfl⟩))) | (refine nw_f hS ?_; intro b w1 hS) | refine as_i hS ?_ | refine as_i (hS.subs (List.nil_sublist _) sb9) ?_ | refine as_i (hS.subs (List.Sublist.refl _) sb9) ?_ | refine bar_f hS ?_ | refine ld_f hS 0 rfl rfl ?_ | refine ldA_f hS 0 rfl rfl ?_ | ((first | refine stN_f hS 0 rfl (lb9 rfl) rfl rfl ?_ | refine stM_f hS 0 rfl (lb9 rfl) rfl ?_); (conv => whnf); intro w1 hS) | refine br_t (by assumption) ?_ | refine br_f (by assumption) ?_)
    refine fp_m (hf _ hS.ownF) ?_
    rintro v w3 ⟨rfl, hS'⟩
    replace hS := hS.callW hS'
    repeat ((conv => whnf); first | (apply q_i; focus (intro w1 hS; (conv => whnf); first | exact ⟨rfl, rfl⟩ | ((first | refine ld_f hS 0 rfl rfl ?_ | refine ldA_f hS 0 rfl rfl ?_); (conv => whnf); exact ⟨rfl, rfl⟩))) | (refine nw_f hS ?_; intro b w1 hS) | refine as_i hS ?_ | refine as_i (hS.subs (List.nil_sublist _) sb9) ?_ | refine as_i (hS.subs (List.Sublist.refl _) sb9) ?_ | refine bar_f hS ?_ | refine ld_f hS 0 rfl rfl ?_ | refine ldA_f hS 0 rfl rfl ?_ | ((first | refine stN_f hS 0 rfl (lb9 rfl) rfl rfl ?_ | refine stM_f hS 0 rfl (lb9 rfl) rfl ?_); (conv => whnf); intro w1 hS) | refine br_t (by assumption) ?_ | refine br_f (by assumption) ?_)
    refine fp_m (rerr_c br _ _ hS.ownF) ?_
    rintro v w4 ⟨rfl, hS'⟩
    replace hS := hS.call0 hS'
    repeat ((conv => whnf); first | (apply q_i; focus (intro w1 hS; (conv => whnf); first | exact ⟨rfl, rfl⟩ | ((first | refine ld_f hS 0 rfl rfl ?_ | refine ldA_f hS 0 rfl rfl ?_); (conv => whnf); exact ⟨rfl, rfl⟩))) | (refine nw_f hS ?_; intro b w1 hS) | refine as_i hS ?_ | refine as_i (hS.subs (List.nil_sublist _) sb9) ?_ | refine as_i (hS.subs (List.Sublist.refl _) sb9) ?_ | refine bar_f hS ?_ | refine ld_f hS 0 rfl rfl ?_ | refine ldA_f hS 0 rfl rfl ?_ | ((first | refine stN_f hS 0 rfl (lb9 rfl) rfl rfl ?_ | refine stM_f hS 0 rfl (lb9 rfl) rfl ?_); (conv => whnf); intro w1 hS) | refine br_t (by assumption) ?_ | refine br_f (by assumption) ?_)
    refine fp_p (must_c _ _) ?_ ?_
    · rintro v w5 ⟨he, hS'⟩
      replace hS := hS.call0 hS'
      repeat ((conv => whnf); first | (apply q_i; focus (intro w1 hS; (conv => whnf); first | exact ⟨rfl, rfl⟩ | ((first | refine ld_f hS 0 rfl rfl ?_ | refine ldA_f hS 0 rfl rfl ?_); (conv => whnf); exact ⟨rfl, rfl⟩))) | (refine nw_f hS ?_; intro b w1 hS) | refine as_i hS ?_ | refine as_i (hS.subs (List.nil_sublist _) sb9) ?_ | refine as_i (hS.subs (List.Sublist.refl _) sb9) ?_ | refine bar_f hS ?_ | refine ld_f hS 0 rfl rfl ?_ | refine ldA_f hS 0 rfl rfl ?_ | ((first | refine stN_f hS 0 rfl (lb9 rfl) rfl rfl ?_ | refine stM_f hS 0 rfl (lb9 rfl) rfl ?_); (conv => whnf); intro w1 hS) | (refine dr9 hS ?_; intro w1 hS) | refine br_t (by assumption) ?_ | refine br_f (by assumption) ?_)
      exact ⟨he, rfl, by simpa using hS.fr (List.Sublist.refl _)⟩
    · rintro c w5 ⟨he, rfl, hS'⟩
      replace hS := hS.call0 hS'
      (conv => whnf)
      exact ⟨rfl, he, rfl, hS.nil⟩
  · rintro c w2 ⟨he, rfl, hS'⟩
    (conv => whnf)
    have ep : (pthR s).1 = aftW 1 s := by unfold pthR; rw [fixedR_err he]
    rw [ep]
    exact ⟨rfl, he, rfl, (hS.callW hS').nil⟩
theorem andBit32 : ∀ (b : Fin 256) (i : Fin 8), (bAnd .u32 (bShr .u32 (b.val : Int) (i.val : Int)) 1 == 1) = bitB (b.val : Int) i.val := by decide +kernel
theorem andBit32' {q : Int} {i : Nat} (h0 : 0 ≤ q) (h1 : q < 256) (hi : i < 8) : (bAnd .u32 (bShr .u32 q (i : Int)) 1 == 1) = bitB q i := by
  have := andBit32 ⟨q.toNat, by omega⟩ ⟨i, hi⟩
  simpa [Int.toNat_of_nonneg h0] using this
theorem tk2_stick {q : Int} {s : RS} {k : Nat} (h : (tk2 q s k).1.e ≠ 0) : ∀ j, (tk2 q s (k + j)).1 = (tk2 q s k).1
  | 0 => rfl
  | j+1 => by
    have ih := tk2_stick h j
    rw [← Nat.add_assoc, tk2]
    split
    · simp only
      rw [ih, fixedR_err h]
    · exact ih
theorem tk2_yes {q : Int} {s : RS} {k : Nat} (h : bitB q k = true) : tk2 q s (k + 1) = (aftW 2 (tk2 q s k).1, upd (tk2 q s k).2 k (numW 2 (tk2 q s k).1)) := by rw [tk2, if_pos h]; rfl
theorem tk2_not {q : Int} {s : RS} {k : Nat} (h : bitB q k = false) : tk2 q s (k + 1) = tk2 q s k := by rw [tk2, if_neg (by rw [h]; decide)]
theorem vec18_c (br : Nat) (s : RS) (w : World) (hS : St [br] w w [(br, rdO s)]) :
    Fp Tryz.prog 54 [rdV br] w (fun v w' => (vecR s).1.e = 0 ∧ v = vecV (vecR s).2 ∧ St [br] w w' [(br, rdO (vecR s).1)]) (fun c w' => (vecR s).1.e ≠ 0 ∧ c = [wrongE (vecR s).1.e] ∧ St [br] w w' []) := by
  refine fp_i TB_ok Tryz.func54 rfl (by kernel_rfl) ?_
  have hS : Sf [br] w w ([(br, rdO s)] ++ []) [] := ⟨hS⟩
  repeat ((conv => whnf); first | (apply q_i; focus (intro w1 hS; (conv => whnf); first | exact ⟨rfl, rfl⟩ | ((first | refine ld_f hS 0 rfl rfl ?_ | refine ld_f hS 1 rfl rfl ?_ | refine ldA_f hS 0 rfl rfl ?_ | refine ldA_f hS 1 rfl rfl ?_); (conv => whnf); exact ⟨rfl, rfl⟩) | ((refine ldN_f hS 1 rfl (lb9 rfl) ?_); (conv => whnf); exact ⟨rfl, rfl⟩))) | (refine nw_f hS ?_; intro b w1 hS) | refine as_i hS ?_ | refine as_i (hS.subs (List.nil_sublist _) sb9) ?_ | refine as_i (hS.subs (List.Sublist.refl _) sb9) ?_ | refine bar_f hS ?_ | refine ld_f hS 0 rfl rfl ?_ | refine ld_f hS 1 rfl rfl ?_ | refine ldA_f hS 0 rfl rfl ?_ | refine ldA_f hS 1 rfl rfl ?_ | ((first | refine stN_f hS 0 rfl (lb9 rfl) rfl rfl ?_ | refine stN_f hS 1 rfl (lb9 rfl) rfl rfl ?_ | refine stM_f hS 0 rfl (lb9 rfl) rfl ?_ | refine stM_f hS 1 rfl (lb9 rfl) rfl ?_); (conv => whnf); intro w1 hS) | refine ldN_f hS 1 rfl (lb9 rfl) ?_ | (refine dr9 hS ?_; intro w1 hS) | refine br_t (by assumption) ?_ | refine br_f (by assumption) ?_)
  refine fp_p (number_c 1 (.inl rfl) br s _ hS.ownF) ?_ ?_
  · rintro v w2 ⟨he, rfl, hS'⟩
    replace hS := hS.callW hS'
    have hn := numW_lt 1 s
    have hv : vecR s = tk2 (numW 1 s) (aftW 1 s) 8 := rfl
    rw [hv]
    generalize numW 1 s = q at *
    generalize aftW 1 s = s1 at *
    repeat ((conv => whnf); first | (apply q_i; focus (intro w1 hS; (conv => whnf); first | exact ⟨rfl, rfl⟩ | ((first | refine ld_f hS 0 rfl rfl ?_ | refine ld_f hS 1 rfl rfl ?_ | refine ldA_f hS 0 rfl rfl ?_ | refine ldA_f hS 1 rfl rfl ?_); (conv => whnf); exact ⟨rfl, rfl⟩))) | (refine nw_f hS ?_; intro b w1 hS) | refine as_i hS ?_ | refine as_i (hS.subs (List.nil_sublist _) sb9) ?_ | refine as_i (hS.subs (List.Sublist.refl _) sb9) ?_ | refine bar_f hS ?_ | refine ld_f hS 0 rfl rfl ?_ | refine ld_f hS 1 rfl rfl ?_ | refine ldA_f hS 0 rfl rfl ?_ | refine ldA_f hS 1 rfl rfl ?_ | ((first | refine stN_f hS 0 rfl (lb9 rfl) rfl rfl ?_ | refine stN_f hS 1 rfl (lb9 rfl) rfl rfl ?_ | refine stM_f hS 0 rfl (lb9 rfl) rfl ?_ | refine stM_f hS 1 rfl (lb9 rfl) rfl ?_); (conv => whnf); intro w1 hS) | (refine dr9 hS ?_; intro w1 hS) | refine br_t (by assumption) ?_ | refine br_f (by assumption) ?_)
    refine loopP_i TB_ok (fun i : Nat => [(7, .int .i64 i)]) (fun i w' => i ≤ 8 ∧ (tk2 q s1 i).1.e = 0 ∧ Sf [br] w w' ([(br, rdO (tk2 q s1 i).1)] ++ []) [(_, .cells (vecF (tk2 q s1 i).2).toArray 37 (0, 0)), _]) (fun i => 8 - i) 0 rfl ⟨Nat.zero_le _, he, hS⟩ ?_
    rintro i us w3 ⟨hi, hei, hS⟩
    (conv => whnf)
    refine br_i (fun hb => ?_) (fun hb => ?_)
    · have hlt : i < 8 := by have := of_decide_eq_true hb; omega
      have hbit := andBit32' (q := q) (i := i) hn.1 (by have := hn.2; omega) hlt
      cases hbv : bitB q i with
      | true =>
        rw [hbv] at hbit
        repeat ((conv => whnf); first | (apply q_i; focus (intro w1 hS; (conv => whnf); first | exact ⟨rfl, rfl⟩ | ((first | refine ld_f hS 0 rfl rfl ?_ | refine ld_f hS 1 rfl rfl ?_ | refine ldA_f hS 0 rfl rfl ?_ | refine ldA_f hS 1 rfl rfl ?_); (conv => whnf); exact ⟨rfl, rfl⟩) | ((refine .mk (by show (0 : Int) ≤ ((i : Nat) : Int); omega) ?_); (conv => whnf); exact ⟨rfl, rfl⟩) | ((refine .mk ⟨by omega, by omega⟩ ?_); (conv => whnf); exact ⟨rfl, rfl⟩) | ((refine ldN_f hS 1 rfl (lb9 rfl) ?_); (conv => whnf); exact ⟨rfl, rfl⟩))) | (refine nw_f hS ?_; intro b w1 hS) | refine as_i hS ?_ | refine as_i (hS.subs (List.nil_sublist _) sb9) ?_ | refine as_i (hS.subs (List.Sublist.refl _) sb9) ?_ | refine bar_f hS ?_ | refine ld_f hS 0 rfl rfl ?_ | refine ld_f hS 1 rfl rfl ?_ | refine ldA_f hS 0 rfl rfl ?_ | refine ldA_f hS 1 rfl rfl ?_ | ((first | refine stN_f hS 0 rfl (lb9 rfl) rfl rfl ?_ | refine stN_f hS 1 rfl (lb9 rfl) rfl rfl ?_ | refine stM_f hS 0 rfl (lb9 rfl) rfl ?_ | refine stM_f hS 1 rfl (lb9 rfl) rfl ?_); (conv => whnf); intro w1 hS) | (refine .mk (by show (0 : Int) ≤ ((i : Nat) : Int); omega) ?_) | refine .mk ⟨by omega, by omega⟩ ?_ | refine ldN_f hS 1 rfl (lb9 rfl) ?_ | (refine dr9 hS ?_; intro w1 hS) | refine br_t (by assumption) ?_ | refine br_f (by assumption) ?_)
        refine fp_p (number_c 2 (.inr (.inl rfl)) br _ _ hS.ownF) ?_ ?_
        · rintro v w4 ⟨he2, rfl, hS'⟩
          replace hS := hS.callW hS'
          repeat ((conv => whnf); first | (apply q_i; focus (intro w1 hS; (conv => whnf); first | exact ⟨rfl, rfl⟩ | ((first | refine ld_f hS 0 rfl rfl ?_ | refine ld_f hS 1 rfl rfl ?_ | refine ldA_f hS 0 rfl rfl ?_ | refine ldA_f hS 1 rfl rfl ?_); (conv => whnf); exact ⟨rfl, rfl⟩) | ((refine .mk ⟨by omega, by omega⟩ ?_); (conv => whnf); exact ⟨rfl, rfl⟩) | ((refine ldv_f hS 0 rfl hlt (by show 0 + i * 1 = i; omega) ?_); (conv => whnf); exact ⟨rfl, rfl⟩) | ((refine ldv_f hS 1 rfl hlt (by show 0 + i * 1 = i; omega) ?_); (conv => whnf); exact ⟨rfl, rfl⟩) | ((refine stv_f hS 0 rfl hlt (by show 0 + i * 1 = i; omega) ?_; (conv => whnf); intro w1 hS); (conv => whnf); exact ⟨rfl, rfl⟩) | ((refine stv_f hS 1 rfl hlt (by show 0 + i * 1 = i; omega) ?_; (conv => whnf); intro w1 hS); (conv => whnf); exact ⟨rfl, rfl⟩))) | (refine nw_f hS ?_; intro b w1 hS) | refine as_i hS ?_ | refine as_i (hS.subs (List.nil_sublist _) sb9) ?_ | refine as_i (hS.subs (List.Sublist.refl _) sb9) ?_ | refine bar_f hS ?_ | refine ld_f hS 0 rfl rfl ?_ | refine ld_f hS 1 rfl rfl ?_ | refine ldA_f hS 0 rfl rfl ?_ | refine ldA_f hS 1 rfl rfl ?_ | ((first | refine stN_f hS 0 rfl (lb9 rfl) rfl rfl ?_ | refine stN_f hS 1 rfl (lb9 rfl) rfl rfl ?_ | refine stM_f hS 0 rfl (lb9 rfl) rfl ?_ | refine stM_f hS 1 rfl (lb9 rfl) rfl ?_); (conv => whnf); intro w1 hS) | refine .mk ⟨by omega, by omega⟩ ?_ | refine ldv_f hS 0 rfl hlt (by show 0 + i * 1 = i; omega) ?_ | refine ldv_f hS 1 rfl hlt (by show 0 + i * 1 = i; omega) ?_ | (refine stv_f hS 0 rfl hlt (by show 0 + i * 1 = i; omega) ?_; (conv => whnf); intro w1 hS) | (refine stv_f hS 1 rfl hlt (by show 0 + i * 1 = i; omega) ?_; (conv => whnf); intro w1 hS) | (refine dr9 hS ?_; intro w1 hS) | refine br_t (by assumption) ?_ | refine br_f (by assumption) ?_)
          refine ⟨rfl, i + 1, ?_, ⟨by omega, by rw [tk2_yes hbv]; exact he2, ?_⟩, by omega⟩
          · rw [wi8 hlt]
            rfl
          · rw [tk2_yes hbv]
            exact hS
        · rintro c w4 ⟨he2, rfl, hS'⟩
          (conv => whnf)
          have h8 : (tk2 q s1 8).1 = aftW 2 (tk2 q s1 i).1 := by
            have h9 : (tk2 q s1 (i + 1)).1 = aftW 2 (tk2 q s1 i).1 := by rw [tk2_yes hbv]
            have h10 := tk2_stick (q := q) (s := s1) (k := i + 1) (by rw [h9]; exact he2) (7 - i)
            rw [show i + 1 + (7 - i) = 8 by omega] at h10
            rw [h10, h9]
          rw [h8]
          exact ⟨rfl, he2, rfl, (hS.callW hS').nil⟩
      | false =>
        rw [hbv] at hbit
        repeat ((conv => whnf); first | (apply q_i; focus (intro w1 hS; (conv => whnf); first | exact ⟨rfl, rfl⟩ | ((first | refine ld_f hS 0 rfl rfl ?_ | refine ld_f hS 1 rfl rfl ?_ | refine ldA_f hS 0 rfl rfl ?_ | refine ldA_f hS 1 rfl rfl ?_); (conv => whnf); exact ⟨rfl, rfl⟩) | ((refine .mk (by show (0 : Int) ≤ ((i : Nat) : Int); omega) ?_); (conv => whnf); exact ⟨rfl, rfl⟩) | ((refine .mk ⟨by omega, by omega⟩ ?_); (conv => whnf); exact ⟨rfl, rfl⟩))) | (refine nw_f hS ?_; intro b w1 hS) | refine as_i hS ?_ | refine as_i (hS.subs (List.nil_sublist _) sb9) ?_ | refine as_i (hS.subs (List.Sublist.refl _) sb9) ?_ | refine bar_f hS ?_ | refine ld_f hS 0 rfl rfl ?_ | refine ld_f hS 1 rfl rfl ?_ | refine ldA_f hS 0 rfl rfl ?_ | refine ldA_f hS 1 rfl rfl ?_ | ((first | refine stN_f hS 0 rfl (lb9 rfl) rfl rfl ?_ | refine stN_f hS 1 rfl (lb9 rfl) rfl rfl ?_ | refine stM_f hS 0 rfl (lb9 rfl) rfl ?_ | refine stM_f hS 1 rfl (lb9 rfl) rfl ?_); (conv => whnf); intro w1 hS) | (refine .mk (by show (0 : Int) ≤ ((i : Nat) : Int); omega) ?_) | refine .mk ⟨by omega, by omega⟩ ?_ | (refine dr9 hS ?_; intro w1 hS) | refine br_t (by assumption) ?_ | refine br_f (by assumption) ?_)
        refine ⟨rfl, i + 1, ?_, ⟨by omega, by rw [tk2_not hbv]; exact hei, by rw [tk2_not hbv]; exact hS⟩, by omega⟩
        rw [wi8 hlt]
        rfl
    · have hge : i = 8 := by have := of_decide_eq_false hb; omega
      subst hge
      repeat ((conv => whnf); first | (apply q_i; focus (intro w1 hS; (conv => whnf); first | exact ⟨rfl, rfl⟩ | ((first | refine ld_f hS 0 rfl rfl ?_ | refine ld_f hS 1 rfl rfl ?_ | refine ldA_f hS 0 rfl rfl ?_ | refine ldA_f hS 1 rfl rfl ?_); (conv => whnf); exact ⟨rfl, rfl⟩) | ((refine ldN_f hS 0 rfl (lb9 rfl) ?_); (conv => whnf); exact ⟨rfl, rfl⟩))) | (refine nw_f hS ?_; intro b w1 hS) | refine as_i hS ?_ | refine as_i (hS.subs (List.nil_sublist _) sb9) ?_ | refine as_i (hS.subs (List.Sublist.refl _) sb9) ?_ | refine bar_f hS ?_ | refine ld_f hS 0 rfl rfl ?_ | refine ld_f hS 1 rfl rfl ?_ | refine ldA_f hS 0 rfl rfl ?_ | refine ldA_f hS 1 rfl rfl ?_ | ((first | refine stN_f hS 0 rfl (lb9 rfl) rfl rfl ?_ | refine stN_f hS 1 rfl (lb9 rfl) rfl rfl ?_ | refine stM_f hS 0 rfl (lb9 rfl) rfl ?_ | refine stM_f hS 1 rfl (lb9 rfl) rfl ?_); (conv => whnf); intro w1 hS) | refine ldN_f hS 0 rfl (lb9 rfl) ?_ | (refine dr9 hS ?_; intro w1 hS) | refine br_t (by assumption) ?_ | refine br_f (by assumption) ?_)
      exact ⟨hei, rfl, by simpa using hS.fr (List.Sublist.refl _)⟩
  · rintro c w2 ⟨he, rfl, hS'⟩
    (conv => whnf)
    have ep : (vecR s).1 = aftW 1 s := by
      have h0 : numW 1 s = 0 := by
        by_cases h : s.e = 0
        · have := fixedR_e (s := s) (n := 1) he
          unfold numW
          have e1 : (fixedR s ((1 : Nat) : Int)).1 = [] := this
          rw [e1]
          rfl
        · exact numW_err h 1
      unfold vecR
      rw [h0, tk2_err]
    rw [ep]
    exact ⟨rfl, he, rfl, (hS.callW hS').nil⟩
end Go.RV

set_option linter.unusedVariables false
set_option linter.unusedSimpArgs false
namespace Go.RV
open Go

/-- a frame on its way out, its deferred calls still to be made -/
structure Goes (P : Program) (fn : Func) (R : Ending → World → Prop) (fr : Fr) (ds : List Deferred) (u : FrameMode) (w : World) : Prop where
  out : LeavesInM Fence.wide 0 P fn fr.toArray R ds u w
def retQD (P : Program) (fn : Func) (R : Ending → World → Prop) : Post := fun e fr ds w =>
  match e with
  | .normal => Goes P fn R fr ds .returning w
  | .ret => Goes P fn R fr ds .returning w
  | .panic c => Goes P fn R fr ds (.panicking c) w
  | _ => Stk "left"
section
variable {P : Program} {T : Tab}
theorem calls_wpD {f : FuncId} {fn : Func} {c : Code} {args : List Value} {w : World} {R : Ending → World → Prop} (hf : P.funcs[f]? = some fn) (hb : fn.body = some c)
    (hx : Wp P none c (retQD P fn R) (args ++ List.replicate (fn.ntmps - args.length) undef) [] w) : Calls P f args.toArray w R := by
  refine callsIn_wide.1 (callsIn_of_wp_marks (n := 0) hf hb trivial ?_)
  have h1 := hx.out 0
  have ht : args.toArray ++ Array.replicate (fn.ntmps - args.toArray.size) undef = (args ++ List.replicate (fn.ntmps - args.length) undef).toArray := by
    apply Array.ext'
    simp
  rw [ht]
  refine wpIn_mono h1 ?_
  rintro e a' w' ⟨fr, ds, rfl, hq⟩
  cases e with
  | normal => exact Goes.out hq
  | ret => exact Goes.out hq
  | panic c => exact Goes.out hq
  | _ => exact Stk.elim hq
theorem Wp.seqW {r : Option Nat} {a b : Code} {Q : Post} {fr : Fr} {ds : List Deferred} {w : World} (h : Wp P r a (thenQ (fun fr ds w => Wp P r b Q fr ds w) Q) fr ds w) : Wp P r (.seq a b) Q fr ds w := by
  refine .of fun n => wpIn_seq (wpIn_mono (h.out n) ?_)
  rintro e a' w' ⟨fr', ds', rfl, hq⟩
  cases e with
  | normal => exact Wp.out hq n
  | _ => exact ⟨fr', ds', rfl, hq⟩
theorem Wp.defer2 {id : Nat} {o1 o2 : Oper} {rest : Code} {Q : Post} {fr : Fr} {ds : List Deferred} {w : World} {g : FuncId} {caps : Array Operand} {t : Nat} {ts : Array TypeId} (ho1 : o1.op = .makeFunc (.func g) #[] caps) (hd1 : o1.dst = some t) (hg1 : o1.guard = none)
    (ho2 : o2.op = .defer ⟨.value (.tmp t), #[], ts⟩) (hd2 : o2.dst = none) (hg2 : o2.guard = none) (ht : t < fr.length) {cs : Array Value} (hcs : caps.map (evL fr) = cs)
    (k : Wp P none rest Q (fr.set t (.func (.func g) #[] cs)) ({ target := .fn (.func g) cs, args := #[] } :: ds) w) : Wp P none (.seq (.region id #[o1, o2] false) rest) Q fr ds w := by
  subst hcs
  refine Wp.seqW (.of fun n => wpIn_region_list ?_)
  show wpListIn (FR none) n P #[o1, o2] _ [o1, o2] ⟨fr.toArray, ds⟩ w
  unfold wpListIn
  have w1 : ∀ tm, Region.wanted o1 (yielded #[o1, o2] tm) = true := fun tm => by unfold Region.wanted; rw [hg1]
  have w2 : ∀ tm, Region.wanted o2 (yielded #[o1, o2] tm) = true := fun tm => by unfold Region.wanted; rw [hg2]
  rw [if_pos (w1 _)]
  refine wpIn_of_semW none n (by rw [ho1]; intro c hc; cases hc) ?_
  refine SemW.of_run (a := .value (.func (.func g) #[] (caps.map (evL fr)))) (w' := w) ?_ ?_
  · unfold execOp
    rw [ho1]
    simp only [Instr.makeFunc, Array.map_empty, Sem.run_bind, Sem.run_pure, Result.andThen_ok]
  simp only [NextW]
  rw [hd1]
  simp only [putL]
  unfold wpListIn
  rw [if_pos (w2 _)]
  refine ⟨fun f _ => trivial, ?_⟩
  rw [eval_eq]
  have hrun : (o2.semAt (FR none).round (evL (fr.set t (.func (.func g) #[] (caps.map (evL fr)))))).run P w = .ok (.defer { target := .fn (.func g) (caps.map (evL fr)), args := #[] }) w := by
    show (execOp _ o2).run P w = _
    unfold execOp
    rw [ho2]
    have hv : evL (fr.set t (.func (.func g) #[] (caps.map (evL fr)))) (.tmp t) = .func (.func g) #[] (caps.map (evL fr)) := by
      show (fr.set t _).getD t undef = _
      simp [List.getD, ht]
    have hres : (resolve (evL (fr.set t (.func (.func g) #[] (caps.map (evL fr))))) ⟨.value (.tmp t), #[], ts⟩ o2.type) = Deferred.ofValue (evL (fr.set t (.func (.func g) #[] (caps.map (evL fr)))) (.tmp t)) #[] := by
      unfold resolve
      simp only [Array.map_empty]
    simp only [hres, hv]
    rfl
  rw [hrun]
  simp only [Oper.uponIn]
  rw [hd2]
  unfold wpListIn
  exact ⟨_, _, rfl, k⟩
theorem Goes.nil {fn : Func} {R : Ending → World → Prop} {fr : Fr} {w : World} (hT : TabOk P T) (h : retK T fn.results.toList fr w fun v => R (.returned v) w) : Goes P fn R fr [] .returning w := by
  refine ⟨?_⟩
  obtain ⟨v, hr, hv⟩ := retK_ok (fn := fn) hT h
  exact ⟨v, hr, hv⟩
theorem Goes.one {fn gn : Func} {gc : Code} {R : Ending → World → Prop} {fr : Fr} {g : FuncId} {cap : Array Value} {u : FrameMode} {w : World} (hu : u ≠ .run) (hf : P.funcs[g]? = some gn) (hb : gn.body = some gc) (hn : (gn.name == "runtime.NumGoroutine") = false)
    {K : Ending → FrameMode → World → Prop} (h : CallsDIn Fence.wide 0 P g cap u w K) (hk : ∀ e u' w', K e u' w' → (∃ v, e = .returned v) ∧ Goes P fn R fr [] (settle u') w') : Goes P fn R fr [{ target := .fn (.func g) cap, args := #[] }] u w := by
  refine ⟨⟨hu, .inr ⟨(by intro h; cases h), .func g, cap, g, cap, rfl, ?_, fun _ _ => trivial, ?_⟩⟩⟩
  · have hr : (callFunc g cap).run P w = .ok (.enter g cap) w := by
      unfold callFunc
      rw [Sem.run_bind]
      have hp : (Go.program).run P w = .ok P w := rfl
      rw [hp]
      simp only [Result.andThen_ok, hf, hn, Bool.false_eq_true, if_false, hb, Option.isNone_some]
      rfl
    have he : (#[] : Array Value) ++ cap = cap := by simp
    have := hr
    rw [← he] at this
    conv at this => rhs; rw [he]
    exact this
  · refine CallsDIn.mono h fun e u' w' hx => ?_
    obtain ⟨⟨v, rfl⟩, h2⟩ := hk e u' w' hx
    exact h2.out
end
end Go.RV

set_option maxRecDepth 20000
set_option linter.unusedVariables false
set_option linter.unusedSimpArgs false
namespace Go.RV
open Go Go.Proofs Go.RowKit

theorem Sl.rdK {e sz n c : Nat} {A : Option Addr} {cs : List Value} {Lv : LM} {w : World} (h : Sl e sz (.slice A n c) n cs Lv) (hH : Holds w Lv) : Rd w A cs := h.rdH hH
theorem takeV_ok {t : RS × Int × Int} (h : (takeV t).2 = 0) : (valR t).e = 0 ∧ okVB (takeV t).1.1 (takeV t).1.2.1 (takeV t).1.2.2 = true := by
  unfold takeV at h ⊢
  split at h
  · rename_i h1; exact absurd h h1
  · split at h
    · rename_i h2; exact absurd h h2
    · split at h
      · rename_i h1 h2 h3
        rw [if_neg h1, if_neg h2, if_pos h3]
        exact ⟨by omega, h3⟩
      · cases h
theorem tellR_err {s : RS} (h : s.e ≠ 0) : (tellR (tellS s)).2.2 = s.e := by
  have e1 : tellS s = (s, 0, 0) := by
    unfold tellS
    rw [fixedR_err h]
    simp only
    rw [fixedR_err h]
    rfl
  rw [e1]
  unfold tellR
  rw [if_pos h]
theorem takeV_err {s : RS} (h : s.e ≠ 0) : (takeV (tellS s)).2 = s.e := by
  unfold takeV
  rw [if_pos (by rw [tellR_err h]; exact h), tellR_err h]
theorem vaR_err {s : RS} (h : s.e ≠ 0) : (vaR s).1.e = s.e := by
  unfold vaR
  simp only
  rw [takeV_err h, if_pos h]
theorem value18_c (br : Nat) (s : RS) (w : World) (hS : St [br] w w [(br, rdO s)]) :
    Fp Tryz.prog 86 [rdV br] w (fun v w' => (vaR s).1.e = 0 ∧ okV (vaR s).2 = true ∧ ∃ A c Lv, (∀ w'', Holds w'' Lv → Rd w'' A (flat encU (vaR s).2.ks)) ∧ v = vaV (vaR s).2 A c ∧ St [br] w w' ([(br, rdO (vaR s).1)] ++ Lv)) (fun c w' => (vaR s).1.e ≠ 0 ∧ c = [wrongE (vaR s).1.e] ∧ St [br] w w' []) := by
  refine fp_i TB_ok Tryz.func86 rfl (by kernel_rfl) ?_
  have hS : Sf [br] w w ([(br, rdO s)] ++ []) [] := ⟨hS⟩
  have htk := fun w' => takeVal_c br s w'
  have e1 : (vaR s).1 = if (takeV (tellS s)).2 ≠ 0 then ⟨[], (takeV (tellS s)).2⟩ else valR (tellS s) := rfl
  have e2 : (vaR s).2 = ⟨(takeV (tellS s)).1.1, (takeV (tellS s)).1.2.1, (takeV (tellS s)).1.2.2⟩ := rfl
  have hok := @takeV_ok (tellS s)
  rw [e1, e2]
  clear e1 e2
  generalize takeV (tellS s) = z at *
  generalize valR (tellS s) = s1 at *
  obtain ⟨⟨zd, zn, zk⟩, ze⟩ := z
  simp only at htk hok ⊢
  repeat ((conv => whnf); first | (apply q_i; focus (intro w1 hS; (conv => whnf); first | exact ⟨rfl, rfl⟩ | ((first | refine ld_f hS 0 rfl rfl ?_ | refine ld_f hS 1 rfl rfl ?_ | refine ldA_f hS 0 rfl rfl ?_ | refine ldA_f hS 1 rfl rfl ?_); (conv => whnf); exact ⟨rfl, rfl⟩))) | (refine nw_f hS ?_; intro b w1 hS) | refine as_i hS ?_ | refine as_i (hS.subs (List.nil_sublist _) sb9) ?_ | refine as_i (hS.subs (List.Sublist.refl _) sb9) ?_ | refine bar_f hS ?_ | refine ld_f hS 0 rfl rfl ?_ | refine ld_f hS 1 rfl rfl ?_ | refine ldA_f hS 0 rfl rfl ?_ | refine ldA_f hS 1 rfl rfl ?_ | ((first | refine stN_f hS 0 rfl (lb9 rfl) rfl rfl ?_ | refine stN_f hS 1 rfl (lb9 rfl) rfl rfl ?_ | refine stM_f hS 0 rfl (lb9 rfl) rfl ?_ | refine stM_f hS 1 rfl (lb9 rfl) rfl ?_); (conv => whnf); intro w1 hS) | (refine dr9 hS ?_; intro w1 hS) | refine br_t (by assumption) ?_ | refine br_f (by assumption) ?_)
  refine fp_m (htk _ hS.ownF) ?_
  rintro v w1 ⟨A, c, Lv, hv, rfl, hS'⟩
  replace hS := hS.callW hS'
  repeat ((conv => whnf); first | (apply q_i; focus (intro w1 hS; (conv => whnf); first | exact ⟨rfl, rfl⟩ | ((first | refine ld_f hS 0 rfl rfl ?_ | refine ld_f hS 1 rfl rfl ?_ | refine ldA_f hS 0 rfl rfl ?_ | refine ldA_f hS 1 rfl rfl ?_); (conv => whnf); exact ⟨rfl, rfl⟩))) | (refine nw_f hS ?_; intro b w1 hS) | refine as_i hS ?_ | refine as_i (hS.subs (List.nil_sublist _) sb9) ?_ | refine as_i (hS.subs (List.Sublist.refl _) sb9) ?_ | refine bar_f hS ?_ | refine ld_f hS 0 rfl rfl ?_ | refine ld_f hS 1 rfl rfl ?_ | refine ldA_f hS 0 rfl rfl ?_ | refine ldA_f hS 1 rfl rfl ?_ | ((first | refine stN_f hS 0 rfl (lb9 rfl) rfl rfl ?_ | refine stN_f hS 1 rfl (lb9 rfl) rfl rfl ?_ | refine stM_f hS 0 rfl (lb9 rfl) rfl ?_ | refine stM_f hS 1 rfl (lb9 rfl) rfl ?_); (conv => whnf); intro w1 hS) | (refine dr9 hS ?_; intro w1 hS) | refine br_t (by assumption) ?_ | refine br_f (by assumption) ?_)
  refine fp_p (must_c _ _) ?_ ?_
  · rintro v w5 ⟨he, hS'⟩
    replace hS := hS.call0 hS'
    repeat ((conv => whnf); first | (apply q_i; focus (intro w1 hS; (conv => whnf); first | exact ⟨rfl, rfl⟩ | ((first | refine ld_f hS 0 rfl rfl ?_ | refine ld_f hS 1 rfl rfl ?_ | refine ldA_f hS 0 rfl rfl ?_ | refine ldA_f hS 1 rfl rfl ?_); (conv => whnf); exact ⟨rfl, rfl⟩) | ((refine ldN_f hS 0 rfl (lb9 rfl) ?_); (conv => whnf); exact ⟨rfl, rfl⟩) | ((refine ldN_f hS 1 rfl (lb9 rfl) ?_); (conv => whnf); exact ⟨rfl, rfl⟩))) | (refine nw_f hS ?_; intro b w1 hS) | refine as_i hS ?_ | refine as_i (hS.subs (List.nil_sublist _) sb9) ?_ | refine as_i (hS.subs (List.Sublist.refl _) sb9) ?_ | refine bar_f hS ?_ | refine ld_f hS 0 rfl rfl ?_ | refine ld_f hS 1 rfl rfl ?_ | refine ldA_f hS 0 rfl rfl ?_ | refine ldA_f hS 1 rfl rfl ?_ | ((first | refine stN_f hS 0 rfl (lb9 rfl) rfl rfl ?_ | refine stN_f hS 1 rfl (lb9 rfl) rfl rfl ?_ | refine stM_f hS 0 rfl (lb9 rfl) rfl ?_ | refine stM_f hS 1 rfl (lb9 rfl) rfl ?_); (conv => whnf); intro w1 hS) | refine ldN_f hS 0 rfl (lb9 rfl) ?_ | refine ldN_f hS 1 rfl (lb9 rfl) ?_ | (refine dr9 hS ?_; intro w1 hS) | refine br_t (by assumption) ?_ | refine br_f (by assumption) ?_)
    rw [if_neg (by omega)]
    exact ⟨(hok he).1, (hok he).2, A, c, Lv, fun w'' hH => hv.rdK hH, rfl, by have h := hS.fr (List.Sublist.refl _); rw [List.append_nil] at h; exact h⟩
  · rintro c w5 ⟨he, rfl, hS'⟩
    replace hS := hS.call0 hS'
    (conv => whnf)
    rw [if_pos he]
    exact ⟨rfl, he, rfl, hS.nil⟩
theorem chunk18_c (br : Nat) (s : RS) (w : World) (hS : St [br] w w [(br, rdO s)]) :
    Fp Tryz.prog 53 [rdV br] w (fun v w' => (chkR s).1.e = 0 ∧ v = chV (chkR s).2.1 (chkR s).2.2.1 (chkR s).2.2.2.1 (chkR s).2.2.2.2 ∧ St [br] w w' [(br, rdO (chkR s).1)]) (fun c w' => (chkR s).1.e ≠ 0 ∧ c = [wrongE (chkR s).1.e] ∧ St [br] w w' []) := by
  have q2 := fun s => numW_lt 2 s
  have q1 := fun s => numW_lt 1 s
  have h2 : ∀ s, IntKind.i64.wrap (numW 2 s) = numW 2 s := fun s => wrap_i64 (by have := (q2 s).1; omega) (by have := (q2 s).2; omega)
  have h1 : ∀ s, IntKind.i64.wrap (numW 1 s) = numW 1 s := fun s => wrap_i64 (by have := (q1 s).1; omega) (by have := (q1 s).2; omega)
  refine fp_i TB_ok Tryz.func53 rfl (by kernel_rfl) ?_
  have hS : Sf [br] w w ([(br, rdO s)] ++ []) [] := ⟨hS⟩
  repeat ((conv => whnf); first | (apply q_i; focus (intro w1 hS; (conv => whnf); first | exact ⟨rfl, rfl⟩ | ((first | refine ld_f hS 0 rfl rfl ?_ | refine ldA_f hS 0 rfl rfl ?_); (conv => whnf); exact ⟨rfl, rfl⟩) | ((refine ldN_f hS 1 rfl (lb9 rfl) ?_); (conv => whnf); exact ⟨rfl, rfl⟩))) | (refine nw_f hS ?_; intro b w1 hS) | refine as_i hS ?_ | refine as_i (hS.subs (List.nil_sublist _) sb9) ?_ | refine as_i (hS.subs (List.Sublist.refl _) sb9) ?_ | refine bar_f hS ?_ | refine ld_f hS 0 rfl rfl ?_ | refine ldA_f hS 0 rfl rfl ?_ | ((first | refine stN_f hS 0 rfl (lb9 rfl) rfl rfl ?_ | refine stM_f hS 0 rfl (lb9 rfl) rfl ?_); (conv => whnf); intro w1 hS) | refine ldN_f hS 1 rfl (lb9 rfl) ?_ | (refine dr9 hS ?_; intro w1 hS) | refine br_t (by assumption) ?_ | refine br_f (by assumption) ?_)
  refine fp_p (number_c 4 (.inr (.inr rfl)) br s _ hS.ownF) ?_ ?_
  · rintro v w2 ⟨he, rfl, hS'⟩
    replace hS := hS.callW hS'
    repeat ((conv => whnf); first | (apply q_i; focus (intro w1 hS; (conv => whnf); first | exact ⟨rfl, rfl⟩ | ((first | refine ld_f hS 0 rfl rfl ?_ | refine ld_f hS 1 rfl rfl ?_ | refine ld_f hS 2 rfl rfl ?_ | refine ldA_f hS 0 rfl rfl ?_ | refine ldA_f hS 1 rfl rfl ?_ | refine ldA_f hS 2 rfl rfl ?_); (conv => whnf); exact ⟨rfl, rfl⟩) | ((refine ldN_f hS 2 rfl (lb9 rfl) ?_); (conv => whnf); exact ⟨rfl, rfl⟩))) | (refine nw_f hS ?_; intro b w1 hS) | refine as_i hS ?_ | refine as_i (hS.subs (List.nil_sublist _) sb9) ?_ | refine as_i (hS.subs (List.Sublist.refl _) sb9) ?_ | refine bar_f hS ?_ | refine ld_f hS 0 rfl rfl ?_ | refine ld_f hS 1 rfl rfl ?_ | refine ld_f hS 2 rfl rfl ?_ | refine ldA_f hS 0 rfl rfl ?_ | refine ldA_f hS 1 rfl rfl ?_ | refine ldA_f hS 2 rfl rfl ?_ | ((first | refine stN_f hS 0 rfl (lb9 rfl) rfl rfl ?_ | refine stN_f hS 1 rfl (lb9 rfl) rfl rfl ?_ | refine stN_f hS 2 rfl (lb9 rfl) rfl rfl ?_ | refine stM_f hS 0 rfl (lb9 rfl) rfl ?_ | refine stM_f hS 1 rfl (lb9 rfl) rfl ?_ | refine stM_f hS 2 rfl (lb9 rfl) rfl ?_); (conv => whnf); intro w1 hS) | refine ldN_f hS 2 rfl (lb9 rfl) ?_ | (refine dr9 hS ?_; intro w1 hS) | refine br_t (by assumption) ?_ | refine br_f (by assumption) ?_)
    refine fp_p (number_c 2 (.inr (.inl rfl)) br _ _ hS.ownF) ?_ ?_
    · rintro v w3 ⟨he2, rfl, hS'⟩
      replace hS := hS.callW hS'
      repeat ((conv => whnf); first | (apply q_i; focus (intro w1 hS; (conv => whnf); first | exact ⟨rfl, rfl⟩ | ((first | refine ld_f hS 0 rfl rfl ?_ | refine ld_f hS 1 rfl rfl ?_ | refine ld_f hS 2 rfl rfl ?_ | refine ldA_f hS 0 rfl rfl ?_ | refine ldA_f hS 1 rfl rfl ?_ | refine ldA_f hS 2 rfl rfl ?_); (conv => whnf); exact ⟨rfl, rfl⟩) | ((refine ldN_f hS 2 rfl (lb9 rfl) ?_); (conv => whnf); exact ⟨rfl, rfl⟩))) | (refine nw_f hS ?_; intro b w1 hS) | refine as_i hS ?_ | refine as_i (hS.subs (List.nil_sublist _) sb9) ?_ | refine as_i (hS.subs (List.Sublist.refl _) sb9) ?_ | refine bar_f hS ?_ | refine ld_f hS 0 rfl rfl ?_ | refine ld_f hS 1 rfl rfl ?_ | refine ld_f hS 2 rfl rfl ?_ | refine ldA_f hS 0 rfl rfl ?_ | refine ldA_f hS 1 rfl rfl ?_ | refine ldA_f hS 2 rfl rfl ?_ | ((first | refine stN_f hS 0 rfl (lb9 rfl) rfl rfl ?_ | refine stN_f hS 1 rfl (lb9 rfl) rfl rfl ?_ | refine stN_f hS 2 rfl (lb9 rfl) rfl rfl ?_ | refine stM_f hS 0 rfl (lb9 rfl) rfl ?_ | refine stM_f hS 1 rfl (lb9 rfl) rfl ?_ | refine stM_f hS 2 rfl (lb9 rfl) rfl ?_); (conv => whnf); intro w1 hS) | refine ldN_f hS 2 rfl (lb9 rfl) ?_ | (refine dr9 hS ?_; intro w1 hS) | refine br_t (by assumption) ?_ | refine br_f (by assumption) ?_)
      refine fp_p (number_c 2 (.inr (.inl rfl)) br _ _ hS.ownF) ?_ ?_
      · rintro v w4 ⟨he3, rfl, hS'⟩
        replace hS := hS.callW hS'
        repeat ((conv => whnf); first | (apply q_i; focus (intro w1 hS; (conv => whnf); first | exact ⟨rfl, rfl⟩ | ((first | refine ld_f hS 0 rfl rfl ?_ | refine ld_f hS 1 rfl rfl ?_ | refine ld_f hS 2 rfl rfl ?_ | refine ldA_f hS 0 rfl rfl ?_ | refine ldA_f hS 1 rfl rfl ?_ | refine ldA_f hS 2 rfl rfl ?_); (conv => whnf); exact ⟨rfl, rfl⟩) | ((refine ldN_f hS 2 rfl (lb9 rfl) ?_); (conv => whnf); exact ⟨rfl, rfl⟩))) | (refine nw_f hS ?_; intro b w1 hS) | refine as_i hS ?_ | refine as_i (hS.subs (List.nil_sublist _) sb9) ?_ | refine as_i (hS.subs (List.Sublist.refl _) sb9) ?_ | refine bar_f hS ?_ | refine ld_f hS 0 rfl rfl ?_ | refine ld_f hS 1 rfl rfl ?_ | refine ld_f hS 2 rfl rfl ?_ | refine ldA_f hS 0 rfl rfl ?_ | refine ldA_f hS 1 rfl rfl ?_ | refine ldA_f hS 2 rfl rfl ?_ | ((first | refine stN_f hS 0 rfl (lb9 rfl) rfl rfl ?_ | refine stN_f hS 1 rfl (lb9 rfl) rfl rfl ?_ | refine stN_f hS 2 rfl (lb9 rfl) rfl rfl ?_ | refine stM_f hS 0 rfl (lb9 rfl) rfl ?_ | refine stM_f hS 1 rfl (lb9 rfl) rfl ?_ | refine stM_f hS 2 rfl (lb9 rfl) rfl ?_); (conv => whnf); intro w1 hS) | refine ldN_f hS 2 rfl (lb9 rfl) ?_ | (refine dr9 hS ?_; intro w1 hS) | refine br_t (by assumption) ?_ | refine br_f (by assumption) ?_)
        refine fp_p (number_c 1 (.inl rfl) br _ _ hS.ownF) ?_ ?_
        · rintro v w5 ⟨he4, rfl, hS'⟩
          replace hS := hS.callW hS'
          repeat ((conv => whnf); first | (apply q_i; focus (intro w1 hS; (conv => whnf); first | exact ⟨rfl, rfl⟩ | ((first | refine ld_f hS 0 rfl rfl ?_ | refine ld_f hS 1 rfl rfl ?_ | refine ld_f hS 2 rfl rfl ?_ | refine ldA_f hS 0 rfl rfl ?_ | refine ldA_f hS 1 rfl rfl ?_ | refine ldA_f hS 2 rfl rfl ?_); (conv => whnf); exact ⟨rfl, rfl⟩) | ((refine ldN_f hS 0 rfl (lb9 rfl) ?_); (conv => whnf); exact ⟨rfl, rfl⟩) | ((refine ldN_f hS 1 rfl (lb9 rfl) ?_); (conv => whnf); exact ⟨rfl, rfl⟩))) | (refine nw_f hS ?_; intro b w1 hS) | refine as_i hS ?_ | refine as_i (hS.subs (List.nil_sublist _) sb9) ?_ | refine as_i (hS.subs (List.Sublist.refl _) sb9) ?_ | refine bar_f hS ?_ | refine ld_f hS 0 rfl rfl ?_ | refine ld_f hS 1 rfl rfl ?_ | refine ld_f hS 2 rfl rfl ?_ | refine ldA_f hS 0 rfl rfl ?_ | refine ldA_f hS 1 rfl rfl ?_ | refine ldA_f hS 2 rfl rfl ?_ | ((first | refine stN_f hS 0 rfl (lb9 rfl) rfl rfl ?_ | refine stN_f hS 1 rfl (lb9 rfl) rfl rfl ?_ | refine stN_f hS 2 rfl (lb9 rfl) rfl rfl ?_ | refine stM_f hS 0 rfl (lb9 rfl) rfl ?_ | refine stM_f hS 1 rfl (lb9 rfl) rfl ?_ | refine stM_f hS 2 rfl (lb9 rfl) rfl ?_); (conv => whnf); intro w1 hS) | refine ldN_f hS 0 rfl (lb9 rfl) ?_ | refine ldN_f hS 1 rfl (lb9 rfl) ?_ | (refine dr9 hS ?_; intro w1 hS) | refine br_t (by assumption) ?_ | refine br_f (by assumption) ?_)
          rw [h1, h2, h2]
          exact ⟨he4, rfl, by have h := hS.fr (List.Sublist.refl _); rw [List.append_nil] at h; exact h⟩
        · rintro c w5 ⟨he4, rfl, hS'⟩
          (conv => whnf)
          exact ⟨rfl, he4, rfl, (hS.callW hS').nil⟩
      · rintro c w4 ⟨he3, rfl, hS'⟩
        (conv => whnf)
        have ep : (chkR s).1 = aftW 2 (aftW 2 (aftW 4 s)) := by unfold chkR; rw [aftW_err he3]
        rw [ep]
        exact ⟨rfl, he3, rfl, (hS.callW hS').nil⟩
    · rintro c w3 ⟨he2, rfl, hS'⟩
      (conv => whnf)
      have ep : (chkR s).1 = aftW 2 (aftW 4 s) := by unfold chkR; rw [aftW_err he2, aftW_err he2]
      rw [ep]
      exact ⟨rfl, he2, rfl, (hS.callW hS').nil⟩
  · rintro c w2 ⟨he, rfl, hS'⟩
    (conv => whnf)
    have ep : (chkR s).1 = aftW 4 s := by unfold chkR; rw [aftW_err he, aftW_err he, aftW_err he]
    rw [ep]
    exact ⟨rfl, he, rfl, (hS.callW hS').nil⟩
theorem version18_c (br : Nat) (s : RS) (w : World) (hS : St [br] w w [(br, rdO s)]) :
    Fp Tryz.prog 52 [rdV br] w (fun v w' => (verR s).1.e = 0 ∧ okV (verR s).2.2.2.2 = true ∧ ∃ A c Lv, (∀ w'', Holds w'' Lv → Rd w'' A (flat encU (verR s).2.2.2.2.ks)) ∧ v = verV (verR s).2.1 (verR s).2.2.1 (verR s).2.2.2.1 (verR s).2.2.2.2 A c ∧ St [br] w w' ([(br, rdO (verR s).1)] ++ Lv))
      (fun c w' => (verR s).1.e ≠ 0 ∧ c = [wrongE (verR s).1.e] ∧ St [br] w w' []) := by
  have h1 : ∀ s, IntKind.u8.wrap (numW 1 s) = numW 1 s := fun s => wrap_u8 (numW_lt 1 s).1 (by have := (numW_lt 1 s).2; omega)
  refine fp_i TB_ok Tryz.func52 rfl (by kernel_rfl) ?_
  have hS : Sf [br] w w ([(br, rdO s)] ++ []) [] := ⟨hS⟩
  repeat ((conv => whnf); first | (apply q_i; focus (intro w1 hS; (conv => whnf); first | exact ⟨rfl, rfl⟩ | ((first | refine ld_f hS 0 rfl rfl ?_ | refine ldA_f hS 0 rfl rfl ?_); (conv => whnf); exact ⟨rfl, rfl⟩) | ((refine ldN_f hS 1 rfl (lb9 rfl) ?_); (conv => whnf); exact ⟨rfl, rfl⟩))) | (refine nw_f hS ?_; intro b w1 hS) | refine as_i hS ?_ | refine as_i (hS.subs (List.nil_sublist _) sb9) ?_ | refine as_i (hS.subs (List.Sublist.refl _) sb9) ?_ | refine bar_f hS ?_ | refine ld_f hS 0 rfl rfl ?_ | refine ldA_f hS 0 rfl rfl ?_ | ((first | refine stN_f hS 0 rfl (lb9 rfl) rfl rfl ?_ | refine stM_f hS 0 rfl (lb9 rfl) rfl ?_); (conv => whnf); intro w1 hS) | refine ldN_f hS 1 rfl (lb9 rfl) ?_ | (refine dr9 hS ?_; intro w1 hS) | refine br_t (by assumption) ?_ | refine br_f (by assumption) ?_)
  refine fp_p (number_c 4 (.inr (.inr rfl)) br s _ hS.ownF) ?_ ?_
  · rintro v w2 ⟨he, rfl, hS'⟩
    replace hS := hS.callW hS'
    repeat ((conv => whnf); first | (apply q_i; focus (intro w1 hS; (conv => whnf); first | exact ⟨rfl, rfl⟩ | ((first | refine ld_f hS 0 rfl rfl ?_ | refine ld_f hS 1 rfl rfl ?_ | refine ld_f hS 2 rfl rfl ?_ | refine ldA_f hS 0 rfl rfl ?_ | refine ldA_f hS 1 rfl rfl ?_ | refine ldA_f hS 2 rfl rfl ?_); (conv => whnf); exact ⟨rfl, rfl⟩) | ((refine ldN_f hS 2 rfl (lb9 rfl) ?_); (conv => whnf); exact ⟨rfl, rfl⟩))) | (refine nw_f hS ?_; intro b w1 hS) | refine as_i hS ?_ | refine as_i (hS.subs (List.nil_sublist _) sb9) ?_ | refine as_i (hS.subs (List.Sublist.refl _) sb9) ?_ | refine bar_f hS ?_ | refine ld_f hS 0 rfl rfl ?_ | refine ld_f hS 1 rfl rfl ?_ | refine ld_f hS 2 rfl rfl ?_ | refine ldA_f hS 0 rfl rfl ?_ | refine ldA_f hS 1 rfl rfl ?_ | refine ldA_f hS 2 rfl rfl ?_ | ((first | refine stN_f hS 0 rfl (lb9 rfl) rfl rfl ?_ | refine stN_f hS 1 rfl (lb9 rfl) rfl rfl ?_ | refine stN_f hS 2 rfl (lb9 rfl) rfl rfl ?_ | refine stM_f hS 0 rfl (lb9 rfl) rfl ?_ | refine stM_f hS 1 rfl (lb9 rfl) rfl ?_ | refine stM_f hS 2 rfl (lb9 rfl) rfl ?_); (conv => whnf); intro w1 hS) | refine ldN_f hS 2 rfl (lb9 rfl) ?_ | (refine dr9 hS ?_; intro w1 hS) | refine br_t (by assumption) ?_ | refine br_f (by assumption) ?_)
    refine fp_p (number_c 4 (.inr (.inr rfl)) br _ _ hS.ownF) ?_ ?_
    · rintro v w3 ⟨he2, rfl, hS'⟩
      replace hS := hS.callW hS'
      repeat ((conv => whnf); first | (apply q_i; focus (intro w1 hS; (conv => whnf); first | exact ⟨rfl, rfl⟩ | ((first | refine ld_f hS 0 rfl rfl ?_ | refine ld_f hS 1 rfl rfl ?_ | refine ld_f hS 2 rfl rfl ?_ | refine ldA_f hS 0 rfl rfl ?_ | refine ldA_f hS 1 rfl rfl ?_ | refine ldA_f hS 2 rfl rfl ?_); (conv => whnf); exact ⟨rfl, rfl⟩) | ((refine ldN_f hS 2 rfl (lb9 rfl) ?_); (conv => whnf); exact ⟨rfl, rfl⟩))) | (refine nw_f hS ?_; intro b w1 hS) | refine as_i hS ?_ | refine as_i (hS.subs (List.nil_sublist _) sb9) ?_ | refine as_i (hS.subs (List.Sublist.refl _) sb9) ?_ | refine bar_f hS ?_ | refine ld_f hS 0 rfl rfl ?_ | refine ld_f hS 1 rfl rfl ?_ | refine ld_f hS 2 rfl rfl ?_ | refine ldA_f hS 0 rfl rfl ?_ | refine ldA_f hS 1 rfl rfl ?_ | refine ldA_f hS 2 rfl rfl ?_ | ((first | refine stN_f hS 0 rfl (lb9 rfl) rfl rfl ?_ | refine stN_f hS 1 rfl (lb9 rfl) rfl rfl ?_ | refine stN_f hS 2 rfl (lb9 rfl) rfl rfl ?_ | refine stM_f hS 0 rfl (lb9 rfl) rfl ?_ | refine stM_f hS 1 rfl (lb9 rfl) rfl ?_ | refine stM_f hS 2 rfl (lb9 rfl) rfl ?_); (conv => whnf); intro w1 hS) | refine ldN_f hS 2 rfl (lb9 rfl) ?_ | (refine dr9 hS ?_; intro w1 hS) | refine br_t (by assumption) ?_ | refine br_f (by assumption) ?_)
      refine fp_p (number_c 1 (.inl rfl) br _ _ hS.ownF) ?_ ?_
      · rintro v w4 ⟨he3, rfl, hS'⟩
        replace hS := hS.callW hS'
        repeat ((conv => whnf); first | (apply q_i; focus (intro w1 hS; (conv => whnf); first | exact ⟨rfl, rfl⟩ | ((first | refine ld_f hS 0 rfl rfl ?_ | refine ld_f hS 1 rfl rfl ?_ | refine ld_f hS 2 rfl rfl ?_ | refine ldA_f hS 0 rfl rfl ?_ | refine ldA_f hS 1 rfl rfl ?_ | refine ldA_f hS 2 rfl rfl ?_); (conv => whnf); exact ⟨rfl, rfl⟩) | ((refine ldN_f hS 2 rfl (lb9 rfl) ?_); (conv => whnf); exact ⟨rfl, rfl⟩))) | (refine nw_f hS ?_; intro b w1 hS) | refine as_i hS ?_ | refine as_i (hS.subs (List.nil_sublist _) sb9) ?_ | refine as_i (hS.subs (List.Sublist.refl _) sb9) ?_ | refine bar_f hS ?_ | refine ld_f hS 0 rfl rfl ?_ | refine ld_f hS 1 rfl rfl ?_ | refine ld_f hS 2 rfl rfl ?_ | refine ldA_f hS 0 rfl rfl ?_ | refine ldA_f hS 1 rfl rfl ?_ | refine ldA_f hS 2 rfl rfl ?_ | ((first | refine stN_f hS 0 rfl (lb9 rfl) rfl rfl ?_ | refine stN_f hS 1 rfl (lb9 rfl) rfl rfl ?_ | refine stN_f hS 2 rfl (lb9 rfl) rfl rfl ?_ | refine stM_f hS 0 rfl (lb9 rfl) rfl ?_ | refine stM_f hS 1 rfl (lb9 rfl) rfl ?_ | refine stM_f hS 2 rfl (lb9 rfl) rfl ?_); (conv => whnf); intro w1 hS) | refine ldN_f hS 2 rfl (lb9 rfl) ?_ | (refine dr9 hS ?_; intro w1 hS) | refine br_t (by assumption) ?_ | refine br_f (by assumption) ?_)
        refine fp_p (value18_c br _ _ hS.ownF) ?_ ?_
        · rintro v w5 ⟨he4, hk, A, c, Lv, hH, rfl, hS'⟩
          replace hS := hS.callW hS'
          rw [h1] at hS
          repeat ((conv => whnf); first | (apply q_i; focus (intro w1 hS; (conv => whnf); first | exact ⟨rfl, rfl⟩ | ((first | refine ld_f hS 0 rfl rfl ?_ | refine ld_f hS 1 rfl rfl ?_ | refine ld_f hS 2 rfl rfl ?_ | refine ldA_f hS 0 rfl rfl ?_ | refine ldA_f hS 1 rfl rfl ?_ | refine ldA_f hS 2 rfl rfl ?_); (conv => whnf); exact ⟨rfl, rfl⟩) | ((refine ldN_f hS 0 rfl (lb9 rfl) ?_); (conv => whnf); exact ⟨rfl, rfl⟩) | ((refine ldN_f hS 1 rfl (lb9 rfl) ?_); (conv => whnf); exact ⟨rfl, rfl⟩))) | (refine nw_f hS ?_; intro b w1 hS) | refine as_i hS ?_ | refine as_i (hS.subs (List.nil_sublist _) sb9) ?_ | refine as_i (hS.subs (List.Sublist.refl _) sb9) ?_ | refine bar_f hS ?_ | refine ld_f hS 0 rfl rfl ?_ | refine ld_f hS 1 rfl rfl ?_ | refine ld_f hS 2 rfl rfl ?_ | refine ldA_f hS 0 rfl rfl ?_ | refine ldA_f hS 1 rfl rfl ?_ | refine ldA_f hS 2 rfl rfl ?_ | ((first | refine stN_f hS 0 rfl (lb9 rfl) rfl rfl ?_ | refine stN_f hS 1 rfl (lb9 rfl) rfl rfl ?_ | refine stN_f hS 2 rfl (lb9 rfl) rfl rfl ?_ | refine stM_f hS 0 rfl (lb9 rfl) rfl ?_ | refine stM_f hS 1 rfl (lb9 rfl) rfl ?_ | refine stM_f hS 2 rfl (lb9 rfl) rfl ?_); (conv => whnf); intro w1 hS) | refine ldN_f hS 0 rfl (lb9 rfl) ?_ | refine ldN_f hS 1 rfl (lb9 rfl) ?_ | (refine dr9 hS ?_; intro w1 hS) | refine br_t (by assumption) ?_ | refine br_f (by assumption) ?_)
          exact ⟨he4, hk, A, c, Lv, hH, rfl, by have h := hS.fr (List.Sublist.refl _); rw [List.append_nil] at h; exact h⟩
        · rintro c w5 ⟨he4, rfl, hS'⟩
          (conv => whnf)
          exact ⟨rfl, he4, rfl, (hS.callW hS').nil⟩
      · rintro c w4 ⟨he3, rfl, hS'⟩
        (conv => whnf)
        have ep : (verR s).1.e = (aftW 1 (aftW 4 (aftW 4 s))).e := by unfold verR; exact vaR_err he3
        rw [ep]
        exact ⟨rfl, he3, rfl, (hS.callW hS').nil⟩
    · rintro c w3 ⟨he2, rfl, hS'⟩
      (conv => whnf)
      have ep : (verR s).1.e = (aftW 4 (aftW 4 s)).e := by unfold verR; rw [aftW_err he2]; exact vaR_err he2
      rw [ep]
      exact ⟨rfl, he2, rfl, (hS.callW hS').nil⟩
  · rintro c w2 ⟨he, rfl, hS'⟩
    (conv => whnf)
    have ep : (verR s).1.e = (aftW 4 s).e := by unfold verR; rw [aftW_err he, aftW_err he]; exact vaR_err he
    rw [ep]
    exact ⟨rfl, he, rfl, (hS.callW hS').nil⟩
def KeepM (Lv : LM) (A : Option Addr) (ms : List Sm) : Prop := ∀ w, Holds w Lv → RdM w A ms
theorem elM : ElemOk Tryz.prog TB 38 94 5 48 := ⟨rfl, ⟨_, _, inf94, rfl, rfl, rfl, rfl⟩, by decide⟩
theorem sbsR_stop {s : RS} {k : Nat} (h : (sbsR s k).1.e ≠ 0) : ∀ j, sbsR s (k + j) = sbsR s k
  | 0 => rfl
  | j+1 => by
    have ih := sbsR_stop h j
    rw [show k + (j + 1) = (k + j) + 1 from rfl, sbsR, ih, if_pos h]
theorem sbsR_len (s : RS) : ∀ k, (sbsR s k).2.length ≤ k
  | 0 => Nat.le_refl _
  | k+1 => by
    have ih := sbsR_len s k
    rw [sbsR]
    split
    · omega
    · simp only
      split
      · omega
      · simp; omega
theorem sbsR_fail {s : RS} {i n : Nat} (hi : i < n) (h0 : (sbsR s i).1.e = 0) (h : (sbR (sbsR s i).1).1.e ≠ 0) : (sbsR s n).1.e = (sbR (sbsR s i).1).1.e := by
  have h1 : (sbsR s (i + 1)).1 = (sbR (sbsR s i).1).1 := by rw [sbsR, if_neg (by rw [h0]; decide)]
  have h2 := sbsR_stop (k := i + 1) (by rw [h1]; exact h) (n - (i + 1))
  rw [show i + 1 + (n - (i + 1)) = n by omega] at h2
  rw [h2, h1]
theorem sbsR_next {s : RS} {i : Nat} (h0 : (sbsR s i).1.e = 0) (h : (sbR (sbsR s i).1).1.e = 0) : sbsR s (i + 1) = ((sbR (sbsR s i).1).1, (sbsR s i).2 ++ [(sbR (sbsR s i).1).2]) := by
  rw [sbsR, if_neg (by rw [h0]; decide), if_neg (by rw [h]; decide)]
section
variable {M : List Nat} {w0 w : World} {F r La Lb Lc Ld : LM} {a b c x : Nat × Obj}
theorem Sf.join (h : Sf M w0 w ((La ++ Lb) ++ (Lc ++ (Ld ++ []))) r) : Sf M w0 w (La ++ (Lc ++ ((Ld ++ Lb) ++ []))) r := ⟨h.st.perm (pc fun u => by simp only [List.count_append, List.count_nil]; omega)⟩
end
theorem Holds.left {w : World} {La Lb : LM} (h : Holds w (La ++ Lb)) : Holds w La := fun x hx => h x (List.mem_append_left _ hx)
theorem Holds.right {w : World} {La Lb : LM} (h : Holds w (La ++ Lb)) : Holds w Lb := fun x hx => h x (List.mem_append_right _ hx)
set_option maxHeartbeats 4000000 in
theorem register18_c (br : Nat) (s : RS) (w : World) (hS : St [br] w w [(br, rdO s)]) :
    Fp Tryz.prog 51 [rdV br] w (fun v w' => (regR s).1.e = 0 ∧ ∃ A c ms Lv, KeepM Lv A ms ∧ (regR s).2.2 = ms.map Sm.s ∧ v = regV (regR s).2.1 A ms.length c ∧ St [br] w w' ([(br, rdO (regR s).1)] ++ Lv))
      (fun c w' => (regR s).1.e ≠ 0 ∧ c = [wrongE (regR s).1.e] ∧ St [br] w w' []) := by
  refine fp_i TB_ok Tryz.func51 rfl (by kernel_rfl) ?_
  have hS : Sf [br] w w ([(br, rdO s)] ++ []) [] := ⟨hS⟩
  repeat ((conv => whnf); first | (apply q_i; focus (intro w1 hS; (conv => whnf); first | exact ⟨rfl, rfl⟩ | ((first | refine ld_f hS 0 rfl rfl ?_ | refine ld_f hS 1 rfl rfl ?_ | refine ldA_f hS 0 rfl rfl ?_ | refine ldA_f hS 1 rfl rfl ?_); (conv => whnf); exact ⟨rfl, rfl⟩) | ((refine ldN_f hS 1 rfl (lb9 rfl) ?_); (conv => whnf); exact ⟨rfl, rfl⟩))) | (refine nw_f hS ?_; intro b w1 hS) | refine as_i hS ?_ | refine as_i (hS.subs (List.nil_sublist _) sb9) ?_ | refine as_i (hS.subs (List.Sublist.refl _) sb9) ?_ | refine bar_f hS ?_ | refine ld_f hS 0 rfl rfl ?_ | refine ld_f hS 1 rfl rfl ?_ | refine ldA_f hS 0 rfl rfl ?_ | refine ldA_f hS 1 rfl rfl ?_ | ((first | refine stN_f hS 0 rfl (lb9 rfl) rfl rfl ?_ | refine stN_f hS 1 rfl (lb9 rfl) rfl rfl ?_ | refine stM_f hS 0 rfl (lb9 rfl) rfl ?_ | refine stM_f hS 1 rfl (lb9 rfl) rfl ?_); (conv => whnf); intro w1 hS) | refine ldN_f hS 1 rfl (lb9 rfl) ?_ | (refine dr9 hS ?_; intro w1 hS) | refine br_t (by assumption) ?_ | refine br_f (by assumption) ?_)
  refine fp_p (vec18_c br s _ hS.ownF) ?_ ?_
  · rintro v w2 ⟨he, rfl, hS'⟩
    replace hS := hS.callW hS'
    have hr : regR s = ((sbsR (aftW 1 (vecR s).1) (numW 1 (vecR s).1).toNat).1, (vecR s).2, (sbsR (aftW 1 (vecR s).1) (numW 1 (vecR s).1).toNat).2) := rfl
    rw [hr]
    generalize vecR s = z at *
    obtain ⟨s1, f⟩ := z
    simp only at he hS ⊢
    repeat ((conv => whnf); first | (apply q_i; focus (intro w1 hS; (conv => whnf); first | exact ⟨rfl, rfl⟩ | ((first | refine ld_f hS 0 rfl rfl ?_ | refine ld_f hS 1 rfl rfl ?_ | refine ld_f hS 2 rfl rfl ?_ | refine ldA_f hS 0 rfl rfl ?_ | refine ldA_f hS 1 rfl rfl ?_ | refine ldA_f hS 2 rfl rfl ?_); (conv => whnf); exact ⟨rfl, rfl⟩) | ((refine ldN_f hS 2 rfl (lb9 rfl) ?_); (conv => whnf); exact ⟨rfl, rfl⟩))) | (refine nw_f hS ?_; intro b w1 hS) | refine as_i hS ?_ | refine as_i (hS.subs (List.nil_sublist _) sb9) ?_ | refine as_i (hS.subs (List.Sublist.refl _) sb9) ?_ | refine bar_f hS ?_ | refine ld_f hS 0 rfl rfl ?_ | refine ld_f hS 1 rfl rfl ?_ | refine ld_f hS 2 rfl rfl ?_ | refine ldA_f hS 0 rfl rfl ?_ | refine ldA_f hS 1 rfl rfl ?_ | refine ldA_f hS 2 rfl rfl ?_ | ((first | refine stN_f hS 0 rfl (lb9 rfl) rfl rfl ?_ | refine stN_f hS 1 rfl (lb9 rfl) rfl rfl ?_ | refine stN_f hS 2 rfl (lb9 rfl) rfl rfl ?_ | refine stM_f hS 0 rfl (lb9 rfl) rfl ?_ | refine stM_f hS 1 rfl (lb9 rfl) rfl ?_ | refine stM_f hS 2 rfl (lb9 rfl) rfl ?_); (conv => whnf); intro w1 hS) | refine ldN_f hS 2 rfl (lb9 rfl) ?_ | (refine dr9 hS ?_; intro w1 hS) | refine br_t (by assumption) ?_ | refine br_f (by assumption) ?_)
    refine fp_p (number_c 1 (.inl rfl) br s1 _ hS.ownF) ?_ ?_
    · rintro v w3 ⟨he1, rfl, hS'⟩
      replace hS := hS.callW hS'
      have hn := numW_lt 1 s1
      generalize aftW 1 s1 = s2 at *
      generalize numW 1 s1 = n0 at *
      obtain ⟨n, rfl⟩ : ∃ n : Nat, n0 = n := ⟨n0.toNat, by omega⟩
      have hn8 : n ≤ 255 := by have := hn.2; omega
      rw [Int.toNat_natCast]
      repeat ((conv => whnf); first | (apply q_i; focus (intro w1 hS; (conv => whnf); first | exact ⟨rfl, rfl⟩ | ((first | refine ld_f hS 0 rfl rfl ?_ | refine ld_f hS 1 rfl rfl ?_ | refine ld_f hS 2 rfl rfl ?_ | refine ldA_f hS 0 rfl rfl ?_ | refine ldA_f hS 1 rfl rfl ?_ | refine ldA_f hS 2 rfl rfl ?_); (conv => whnf); exact ⟨rfl, rfl⟩))) | (refine nw_f hS ?_; intro b w1 hS) | refine as_i hS ?_ | refine as_i (hS.subs (List.nil_sublist _) sb9) ?_ | refine as_i (hS.subs (List.Sublist.refl _) sb9) ?_ | refine bar_f hS ?_ | refine ld_f hS 0 rfl rfl ?_ | refine ld_f hS 1 rfl rfl ?_ | refine ld_f hS 2 rfl rfl ?_ | refine ldA_f hS 0 rfl rfl ?_ | refine ldA_f hS 1 rfl rfl ?_ | refine ldA_f hS 2 rfl rfl ?_ | ((first | refine stN_f hS 0 rfl (lb9 rfl) rfl rfl ?_ | refine stN_f hS 1 rfl (lb9 rfl) rfl rfl ?_ | refine stN_f hS 2 rfl (lb9 rfl) rfl rfl ?_ | refine stM_f hS 0 rfl (lb9 rfl) rfl ?_ | refine stM_f hS 1 rfl (lb9 rfl) rfl ?_ | refine stM_f hS 2 rfl (lb9 rfl) rfl ?_); (conv => whnf); intro w1 hS) | (refine dr9 hS ?_; intro w1 hS) | refine br_t (by assumption) ?_ | refine br_f (by assumption) ?_)
      replace hS : Sf [br] w _ ([(br, rdO s2)] ++ ([] ++ ([] ++ []))) [_, _, _] := hS
      refine loopP_i TB_ok (fun i : Nat => [(10, .int .u32 i)]) (fun i w' => i ≤ n ∧ (sbsR s2 i).1.e = 0 ∧ ∃ A c ms Lx Li, (sbsR s2 i).2 = ms.map Sm.s ∧ (∀ w'', Holds w'' Li → ∀ m ∈ ms, Rd w'' m.A (flat encU m.s.v.ks)) ∧ Sl 94 5 (.slice A ms.length c) ms.length (flat encM ms) Lx ∧
        Sf [br] w w' ([(br, rdO (sbsR s2 i).1)] ++ (Lx ++ (Li ++ []))) [(_, .cells (vecF f ++ [Value.slice A ms.length c]).toArray 40 (0, 0)), _, _]) (fun i => n - i) 0 rfl ⟨Nat.zero_le _, he1, none, 0, [], [], [], rfl, (fun _ _ m hm => (nomatch hm)), .nil, hS⟩ ?_
      rintro i us w4 ⟨hi, he, A, c, ms, Lx, Li, hms, hin, hv, hS⟩
      (conv => whnf)
      refine br_i (fun hb => ?_) (fun hb => ?_)
      · have hlt : i < n := by have := of_decide_eq_true hb; omega
        have hln := sbsR_len s2 i
        rw [hms, List.length_map] at hln
        have hfail := sbsR_fail (s := s2) hlt he
        have hnext := sbsR_next (s := s2) (i := i) he
        have hsb : sbR (sbsR s2 i).1 = ((vaR (aftW 2 (aftW 1 (sbsR s2 i).1))).1, ⟨numW 1 (sbsR s2 i).1, numW 2 (aftW 1 (sbsR s2 i).1), (vaR (aftW 2 (aftW 1 (sbsR s2 i).1))).2⟩) := rfl
        have hw8 : IntKind.u8.wrap (numW 1 (sbsR s2 i).1) = numW 1 (sbsR s2 i).1 := wrap_u8 (numW_lt 1 _).1 (by have := (numW_lt 1 (sbsR s2 i).1).2; omega)
        rw [hms] at hnext
        generalize (sbsR s2 i).1 = s3 at *
        repeat ((conv => whnf); first | (apply q_i; focus (intro w1 hS; (conv => whnf); first | exact ⟨rfl, rfl⟩ | ((first | refine ld_f hS 0 rfl rfl ?_ | refine ld_f hS 1 rfl rfl ?_ | refine ld_f hS 2 rfl rfl ?_ | refine ldA_f hS 0 rfl rfl ?_ | refine ldA_f hS 1 rfl rfl ?_ | refine ldA_f hS 2 rfl rfl ?_); (conv => whnf); exact ⟨rfl, rfl⟩) | ((refine ldN_f hS 2 rfl (lb9 rfl) ?_); (conv => whnf); exact ⟨rfl, rfl⟩))) | (refine nw_f hS ?_; intro b w1 hS) | refine as_i hS ?_ | refine as_i (hS.subs (List.nil_sublist _) sb9) ?_ | refine as_i (hS.subs (List.Sublist.refl _) sb9) ?_ | refine bar_f hS ?_ | refine ld_f hS 0 rfl rfl ?_ | refine ld_f hS 1 rfl rfl ?_ | refine ld_f hS 2 rfl rfl ?_ | refine ldA_f hS 0 rfl rfl ?_ | refine ldA_f hS 1 rfl rfl ?_ | refine ldA_f hS 2 rfl rfl ?_ | ((first | refine stN_f hS 0 rfl (lb9 rfl) rfl rfl ?_ | refine stN_f hS 1 rfl (lb9 rfl) rfl rfl ?_ | refine stN_f hS 2 rfl (lb9 rfl) rfl rfl ?_ | refine stM_f hS 0 rfl (lb9 rfl) rfl ?_ | refine stM_f hS 1 rfl (lb9 rfl) rfl ?_ | refine stM_f hS 2 rfl (lb9 rfl) rfl ?_); (conv => whnf); intro w1 hS) | refine ldN_f hS 2 rfl (lb9 rfl) ?_ | (refine dr9 hS ?_; intro w1 hS) | refine br_t (by assumption) ?_ | refine br_f (by assumption) ?_)
        refine fp_p (number_c 1 (.inl rfl) br s3 _ hS.ownF) ?_ ?_
        · rintro v w5 ⟨he2, rfl, hS'⟩
          replace hS := hS.callW hS'
          repeat ((conv => whnf); first | (apply q_i; focus (intro w1 hS; (conv => whnf); first | exact ⟨rfl, rfl⟩ | ((first | refine ld_f hS 0 rfl rfl ?_ | refine ld_f hS 1 rfl rfl ?_ | refine ld_f hS 2 rfl rfl ?_ | refine ld_f hS 3 rfl rfl ?_ | refine ldA_f hS 0 rfl rfl ?_ | refine ldA_f hS 1 rfl rfl ?_ | refine ldA_f hS 2 rfl rfl ?_ | refine ldA_f hS 3 rfl rfl ?_); (conv => whnf); exact ⟨rfl, rfl⟩) | ((refine ldN_f hS 3 rfl (lb9 rfl) ?_); (conv => whnf); exact ⟨rfl, rfl⟩))) | (refine nw_f hS ?_; intro b w1 hS) | refine as_i hS ?_ | refine as_i (hS.subs (List.nil_sublist _) sb9) ?_ | refine as_i (hS.subs (List.Sublist.refl _) sb9) ?_ | refine bar_f hS ?_ | refine ld_f hS 0 rfl rfl ?_ | refine ld_f hS 1 rfl rfl ?_ | refine ld_f hS 2 rfl rfl ?_ | refine ld_f hS 3 rfl rfl ?_ | refine ldA_f hS 0 rfl rfl ?_ | refine ldA_f hS 1 rfl rfl ?_ | refine ldA_f hS 2 rfl rfl ?_ | refine ldA_f hS 3 rfl rfl ?_ | ((first | refine stN_f hS 0 rfl (lb9 rfl) rfl rfl ?_ | refine stN_f hS 1 rfl (lb9 rfl) rfl rfl ?_ | refine stN_f hS 2 rfl (lb9 rfl) rfl rfl ?_ | refine stN_f hS 3 rfl (lb9 rfl) rfl rfl ?_ | refine stM_f hS 0 rfl (lb9 rfl) rfl ?_ | refine stM_f hS 1 rfl (lb9 rfl) rfl ?_ | refine stM_f hS 2 rfl (lb9 rfl) rfl ?_ | refine stM_f hS 3 rfl (lb9 rfl) rfl ?_); (conv => whnf); intro w1 hS) | refine ldN_f hS 3 rfl (lb9 rfl) ?_ | (refine dr9 hS ?_; intro w1 hS) | refine br_t (by assumption) ?_ | refine br_f (by assumption) ?_)
          refine fp_p (number_c 2 (.inr (.inl rfl)) br _ _ hS.ownF) ?_ ?_
          · rintro v w6 ⟨he3, rfl, hS'⟩
            replace hS := hS.callW hS'
            repeat ((conv => whnf); first | (apply q_i; focus (intro w1 hS; (conv => whnf); first | exact ⟨rfl, rfl⟩ | ((first | refine ld_f hS 0 rfl rfl ?_ | refine ld_f hS 1 rfl rfl ?_ | refine ld_f hS 2 rfl rfl ?_ | refine ld_f hS 3 rfl rfl ?_ | refine ldA_f hS 0 rfl rfl ?_ | refine ldA_f hS 1 rfl rfl ?_ | refine ldA_f hS 2 rfl rfl ?_ | refine ldA_f hS 3 rfl rfl ?_); (conv => whnf); exact ⟨rfl, rfl⟩))) | (refine nw_f hS ?_; intro b w1 hS) | refine as_i hS ?_ | refine as_i (hS.subs (List.nil_sublist _) sb9) ?_ | refine as_i (hS.subs (List.Sublist.refl _) sb9) ?_ | refine bar_f hS ?_ | refine ld_f hS 0 rfl rfl ?_ | refine ld_f hS 1 rfl rfl ?_ | refine ld_f hS 2 rfl rfl ?_ | refine ld_f hS 3 rfl rfl ?_ | refine ldA_f hS 0 rfl rfl ?_ | refine ldA_f hS 1 rfl rfl ?_ | refine ldA_f hS 2 rfl rfl ?_ | refine ldA_f hS 3 rfl rfl ?_ | ((first | refine stN_f hS 0 rfl (lb9 rfl) rfl rfl ?_ | refine stN_f hS 1 rfl (lb9 rfl) rfl rfl ?_ | refine stN_f hS 2 rfl (lb9 rfl) rfl rfl ?_ | refine stN_f hS 3 rfl (lb9 rfl) rfl rfl ?_ | refine stM_f hS 0 rfl (lb9 rfl) rfl ?_ | refine stM_f hS 1 rfl (lb9 rfl) rfl ?_ | refine stM_f hS 2 rfl (lb9 rfl) rfl ?_ | refine stM_f hS 3 rfl (lb9 rfl) rfl ?_); (conv => whnf); intro w1 hS) | refine br_t (by assumption) ?_ | refine br_f (by assumption) ?_)
            rw [hw8] at hS
            refine drawfP TB_ok rfl (by kernel_rfl) (by kernel_rfl) hS (List.nil_sublist _) (List.Sublist.refl _) (fun c fr fr' w h => h) ?_
            intro w7 hS
            repeat ((conv => whnf); first | (apply q_i; focus (intro w1 hS; (conv => whnf); first | exact ⟨rfl, rfl⟩ | ((first | refine ld_f hS 0 rfl rfl ?_ | refine ld_f hS 1 rfl rfl ?_ | refine ld_f hS 2 rfl rfl ?_ | refine ld_f hS 3 rfl rfl ?_ | refine ldA_f hS 0 rfl rfl ?_ | refine ldA_f hS 1 rfl rfl ?_ | refine ldA_f hS 2 rfl rfl ?_ | refine ldA_f hS 3 rfl rfl ?_); (conv => whnf); exact ⟨rfl, rfl⟩) | ((refine ldN_f hS 0 rfl (lb9 rfl) ?_); (conv => whnf); exact ⟨rfl, rfl⟩) | ((refine ldN_f hS 3 rfl (lb9 rfl) ?_); (conv => whnf); exact ⟨rfl, rfl⟩))) | (refine nw_f hS ?_; intro b w1 hS) | refine as_i hS ?_ | refine as_i (hS.subs (List.nil_sublist _) sb9) ?_ | refine as_i (hS.subs (List.Sublist.refl _) sb9) ?_ | refine bar_f hS ?_ | refine ld_f hS 0 rfl rfl ?_ | refine ld_f hS 1 rfl rfl ?_ | refine ld_f hS 2 rfl rfl ?_ | refine ld_f hS 3 rfl rfl ?_ | refine ldA_f hS 0 rfl rfl ?_ | refine ldA_f hS 1 rfl rfl ?_ | refine ldA_f hS 2 rfl rfl ?_ | refine ldA_f hS 3 rfl rfl ?_ | ((first | refine stN_f hS 0 rfl (lb9 rfl) rfl rfl ?_ | refine stN_f hS 1 rfl (lb9 rfl) rfl rfl ?_ | refine stN_f hS 2 rfl (lb9 rfl) rfl rfl ?_ | refine stN_f hS 3 rfl (lb9 rfl) rfl rfl ?_ | refine stM_f hS 0 rfl (lb9 rfl) rfl ?_ | refine stM_f hS 1 rfl (lb9 rfl) rfl ?_ | refine stM_f hS 2 rfl (lb9 rfl) rfl ?_ | refine stM_f hS 3 rfl (lb9 rfl) rfl ?_); (conv => whnf); intro w1 hS) | refine ldN_f hS 0 rfl (lb9 rfl) ?_ | refine ldN_f hS 3 rfl (lb9 rfl) ?_ | refine br_t (by assumption) ?_ | refine br_f (by assumption) ?_)
            refine fp_p (value18_c br _ _ hS.ownF) ?_ ?_
            · rintro v w8 ⟨he4, hk, B, cb, Lb, hH', rfl, hS'⟩
              replace hS := (hS.callW hS').join
              have hb1 : (sbR s3).1.e = 0 := by rw [hsb]; exact he4
              have hnx := hnext hb1
              rw [hsb] at hnx
              generalize (vaR (aftW 2 (aftW 1 s3))).1 = s4 at *
              generalize (vaR (aftW 2 (aftW 1 s3))).2 = va at *
              generalize numW 1 s3 = dr at *
              generalize numW 2 (aftW 1 s3) = dn at *
              repeat ((conv => whnf); first | (apply q_i; focus (intro w1 hS; (conv => whnf); first | exact ⟨rfl, rfl⟩ | ((first | refine ld_f hS 0 rfl rfl ?_ | refine ld_f hS 1 rfl rfl ?_ | refine ld_f hS 2 rfl rfl ?_ | refine ld_f hS 3 rfl rfl ?_ | refine ldA_f hS 0 rfl rfl ?_ | refine ldA_f hS 1 rfl rfl ?_ | refine ldA_f hS 2 rfl rfl ?_ | refine ldA_f hS 3 rfl rfl ?_); (conv => whnf); exact ⟨rfl, rfl⟩))) | (refine nw_f hS ?_; intro b w1 hS) | refine as_i hS ?_ | refine as_i (hS.subs (List.nil_sublist _) sb9) ?_ | refine as_i (hS.subs (List.Sublist.refl _) sb9) ?_ | refine bar_f hS ?_ | refine ld_f hS 0 rfl rfl ?_ | refine ld_f hS 1 rfl rfl ?_ | refine ld_f hS 2 rfl rfl ?_ | refine ld_f hS 3 rfl rfl ?_ | refine ldA_f hS 0 rfl rfl ?_ | refine ldA_f hS 1 rfl rfl ?_ | refine ldA_f hS 2 rfl rfl ?_ | refine ldA_f hS 3 rfl rfl ?_ | ((first | refine stN_f hS 0 rfl (lb9 rfl) rfl rfl ?_ | refine stN_f hS 1 rfl (lb9 rfl) rfl rfl ?_ | refine stN_f hS 2 rfl (lb9 rfl) rfl rfl ?_ | refine stN_f hS 3 rfl (lb9 rfl) rfl rfl ?_ | refine stM_f hS 0 rfl (lb9 rfl) rfl ?_ | refine stM_f hS 1 rfl (lb9 rfl) rfl ?_ | refine stM_f hS 2 rfl (lb9 rfl) rfl ?_ | refine stM_f hS 3 rfl (lb9 rfl) rfl ?_); (conv => whnf); intro w1 hS) | refine br_t (by assumption) ?_ | refine br_f (by assumption) ?_)
              (conv => whnf)
              replace hS := hS.rot
              refine app_f TB_ok elM hS hv (show Rd _ _ (flat encM [⟨⟨dr, dn, va⟩, B, cb⟩]) from hS.rd 0 rfl) rfl (fun y hy => encM_one _ y (by simpa [flat] using hy)) (by omega) (by omega) ?_
              intro v' Lv' w9 hv' hS
              obtain ⟨A', c', rfl, hv'⟩ := hv'.open
              replace hS := hS.rot
              repeat ((conv => whnf); first | (apply q_i; focus (intro w1 hS; (conv => whnf); first | exact ⟨rfl, rfl⟩ | ((first | refine ld_f hS 0 rfl rfl ?_ | refine ld_f hS 1 rfl rfl ?_ | refine ld_f hS 2 rfl rfl ?_ | refine ld_f hS 3 rfl rfl ?_ | refine ld_f hS 4 rfl rfl ?_ | refine ldA_f hS 0 rfl rfl ?_ | refine ldA_f hS 1 rfl rfl ?_ | refine ldA_f hS 2 rfl rfl ?_ | refine ldA_f hS 3 rfl rfl ?_ | refine ldA_f hS 4 rfl rfl ?_); (conv => whnf); exact ⟨rfl, rfl⟩))) | (refine nw_f hS ?_; intro b w1 hS) | refine as_i hS ?_ | refine as_i (hS.subs (List.nil_sublist _) sb9) ?_ | refine as_i (hS.subs (List.Sublist.refl _) sb9) ?_ | refine bar_f hS ?_ | refine ld_f hS 0 rfl rfl ?_ | refine ld_f hS 1 rfl rfl ?_ | refine ld_f hS 2 rfl rfl ?_ | refine ld_f hS 3 rfl rfl ?_ | refine ld_f hS 4 rfl rfl ?_ | refine ldA_f hS 0 rfl rfl ?_ | refine ldA_f hS 1 rfl rfl ?_ | refine ldA_f hS 2 rfl rfl ?_ | refine ldA_f hS 3 rfl rfl ?_ | refine ldA_f hS 4 rfl rfl ?_ | ((first | refine stN_f hS 0 rfl (lb9 rfl) rfl rfl ?_ | refine stN_f hS 1 rfl (lb9 rfl) rfl rfl ?_ | refine stN_f hS 2 rfl (lb9 rfl) rfl rfl ?_ | refine stN_f hS 3 rfl (lb9 rfl) rfl rfl ?_ | refine stN_f hS 4 rfl (lb9 rfl) rfl rfl ?_ | refine stM_f hS 0 rfl (lb9 rfl) rfl ?_ | refine stM_f hS 1 rfl (lb9 rfl) rfl ?_ | refine stM_f hS 2 rfl (lb9 rfl) rfl ?_ | refine stM_f hS 3 rfl (lb9 rfl) rfl ?_ | refine stM_f hS 4 rfl (lb9 rfl) rfl ?_); (conv => whnf); intro w1 hS) | refine br_t (by assumption) ?_ | refine br_f (by assumption) ?_)
              refine ⟨rfl, i + 1, ?_, ⟨by omega, by rw [hnx]; exact he4, A', c', ms ++ [⟨⟨dr, dn, va⟩, B, cb⟩], Lv', Li ++ Lb, ?_, ?_, ?_, ?_⟩, by omega⟩
              · rw [wrap_u32 (by omega) (by omega)]
                rfl
              · rw [hnx, List.map_append]
                rfl
              · intro w'' hH m hm
                rcases List.mem_append.1 hm with h | h
                · exact hin w'' hH.left m h
                · obtain rfl := List.mem_singleton.1 h
                  exact hH' w'' hH.right
              · rw [flat_append, List.length_append]
                exact hv'
              · rw [hnx, List.length_append]
                exact hS.subs (List.Sublist.refl _) (.cons _ (.cons _ (.refl _)))
            · rintro c w8 ⟨he4, rfl, hS'⟩
              (conv => whnf)
              have ep := hfail (by rw [hsb]; exact he4)
              rw [hsb] at ep
              rw [ep]
              exact ⟨rfl, he4, rfl, (hS.callW hS').nil⟩
          · rintro c w6 ⟨he3, rfl, hS'⟩
            (conv => whnf)
            have e4 : (vaR (aftW 2 (aftW 1 s3))).1.e = (aftW 2 (aftW 1 s3)).e := vaR_err he3
            have ep := hfail (by rw [hsb]; simp only; rw [e4]; exact he3)
            rw [hsb] at ep
            rw [ep, e4]
            exact ⟨rfl, he3, rfl, (hS.callW hS').nil⟩
        · rintro c w5 ⟨he2, rfl, hS'⟩
          (conv => whnf)
          have e4 : (vaR (aftW 2 (aftW 1 s3))).1.e = (aftW 1 s3).e := by rw [aftW_err he2]; exact vaR_err he2
          have ep := hfail (by rw [hsb]; simp only; rw [e4]; exact he2)
          rw [hsb] at ep
          rw [ep, e4]
          exact ⟨rfl, he2, rfl, (hS.callW hS').nil⟩
      · have hge : i = n := by have := of_decide_eq_false hb; omega
        subst hge
        repeat ((conv => whnf); first | (apply q_i; focus (intro w1 hS; (conv => whnf); first | exact ⟨rfl, rfl⟩ | ((first | refine ld_f hS 0 rfl rfl ?_ | refine ld_f hS 1 rfl rfl ?_ | refine ld_f hS 2 rfl rfl ?_ | refine ldA_f hS 0 rfl rfl ?_ | refine ldA_f hS 1 rfl rfl ?_ | refine ldA_f hS 2 rfl rfl ?_); (conv => whnf); exact ⟨rfl, rfl⟩) | ((refine ldN_f hS 0 rfl (lb9 rfl) ?_); (conv => whnf); exact ⟨rfl, rfl⟩) | ((refine ldN_f hS 1 rfl (lb9 rfl) ?_); (conv => whnf); exact ⟨rfl, rfl⟩))) | (refine nw_f hS ?_; intro b w1 hS) | refine as_i hS ?_ | refine as_i (hS.subs (List.nil_sublist _) sb9) ?_ | refine as_i (hS.subs (List.Sublist.refl _) sb9) ?_ | refine bar_f hS ?_ | refine ld_f hS 0 rfl rfl ?_ | refine ld_f hS 1 rfl rfl ?_ | refine ld_f hS 2 rfl rfl ?_ | refine ldA_f hS 0 rfl rfl ?_ | refine ldA_f hS 1 rfl rfl ?_ | refine ldA_f hS 2 rfl rfl ?_ | ((first | refine stN_f hS 0 rfl (lb9 rfl) rfl rfl ?_ | refine stN_f hS 1 rfl (lb9 rfl) rfl rfl ?_ | refine stN_f hS 2 rfl (lb9 rfl) rfl rfl ?_ | refine stM_f hS 0 rfl (lb9 rfl) rfl ?_ | refine stM_f hS 1 rfl (lb9 rfl) rfl ?_ | refine stM_f hS 2 rfl (lb9 rfl) rfl ?_); (conv => whnf); intro w1 hS) | refine ldN_f hS 0 rfl (lb9 rfl) ?_ | refine ldN_f hS 1 rfl (lb9 rfl) ?_ | (refine dr9 hS ?_; intro w1 hS) | refine br_t (by assumption) ?_ | refine br_f (by assumption) ?_)
        refine ⟨he, A, c, ms, Lx ++ Li, fun w'' hH => ⟨hv.rdK hH.left, hin w'' hH.right⟩, hms, rfl, ?_⟩
        have h := hS.fr (List.Sublist.refl _)
        rw [List.append_nil] at h
        exact h
    · rintro c w3 ⟨he1, rfl, hS'⟩
      (conv => whnf)
      have h0 : numW 1 s1 = 0 := by
        have := fixedR_e (s := s1) (n := 1) he1
        unfold numW
        have e1 : (fixedR s1 ((1 : Nat) : Int)).1 = [] := this
        rw [e1]
        rfl
      rw [h0]
      exact ⟨rfl, he1, rfl, (hS.callW hS').nil⟩
  · rintro c w2 ⟨he, rfl, hS'⟩
    (conv => whnf)
    have ep : (regR s).1 = (vecR s).1 := by unfold regR; rw [numW_err he, aftW_err he]; rfl
    rw [ep]
    exact ⟨rfl, he, rfl, (hS.callW hS').nil⟩
end Go.RV

