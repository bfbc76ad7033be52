/- The laws of chapter 6, walked: SiblingSame. Conditions: none. -/
import Derived.Test.YteipebgpifannaaH23
set_option maxRecDepth 20000
set_option linter.unusedVariables false
set_option linter.unusedSimpArgs false
namespace Go.RV
open Go Go.Proofs

/-- what blocks tell, read -/
def RdIn (F : LM) (A : Option Addr) (cs : List Value) : Prop := ∀ (M : List Nat) (w0 w : World) (L : LM), St M w0 w L → (∀ x ∈ F, x ∈ L) → Rd w A cs
theorem RdIn.mono {F F' : LM} {A : Option Addr} {cs : List Value} (h : RdIn F A cs) (hs : ∀ x ∈ F, x ∈ F') : RdIn F' A cs := fun M w0 w L hS hF => h M w0 w L hS fun x hx => hF x (hs x hx)
theorem RdIn.rd {F L : LM} {A : Option Addr} {cs : List Value} {M : List Nat} {w0 w : World} (h : RdIn F A cs) (hS : Sf M w0 w F L) : Rd w A cs := h M w0 w _ hS.st fun x hx => List.mem_append_left _ hx
theorem Sl.rdIn {e sz : Nat} {A : Option Addr} {c n : Nat} {cs : List Value} {Lv : LM} (h : Sl e sz (.slice A n c) n cs Lv) : RdIn Lv A cs := fun M w0 w L hS hF => h.rd hS hF
theorem RdIn.nil {F : LM} {A : Option Addr} : RdIn F A [] := fun _ _ _ _ _ _ => .inl rfl

theorem Ki.opE {g : Ka} {m : Nat} (I : Ki g m) (hm : m < 60000) {u : Nat} (hu : u < 4) : opE (g.cs u) (g.ls u) u = 0 := by
  have := I.most hu
  unfold Go.RV.opE nextE
  rw [if_pos (I.check (by omega) hu), if_neg (by omega), if_neg (by omega)]
theorem Ki.opF {g : Ka} {m : Nat} (I : Ki g m) (hm : m < 60000) {u : Nat} (hu : u < 4) : opF (g.cs u) (g.ls u) u = upd (g.cs u) u (mostN (g.cs u) 8 + 1) := by
  have := I.most hu
  unfold Go.RV.opF
  rw [if_pos (I.opE hm hu)]
  unfold nextV
  rw [if_neg (by omega), Int.toNat_natCast]
theorem Ki.opR {g : Ka} {m : Nat} (I : Ki g m) (hm : m < 60000) {u : Nat} (hu : u < 4) : opR (g.cs u) (g.ls u) u = u := by
  have := I.most hu
  unfold Go.RV.opR
  rw [if_pos (I.opE hm hu)]
  unfold nextR
  rw [if_neg (by omega)]
theorem Ki.opN {g : Ka} {m : Nat} (I : Ki g m) (hm : m < 60000) {u : Nat} (hu : u < 4) : opN (g.cs u) (g.ls u) u = mostN (g.cs u) 8 + 1 := by
  have := I.most hu
  unfold Go.RV.opN
  rw [if_pos (I.opE hm hu)]
  unfold nextN
  rw [if_neg (by omega)]
theorem Ki.opX {g : Ka} {m : Nat} (I : Ki g m) (hm : m < 60000) {u : Nat} (hu : u < 4) (ds : List (Int × Int)) : opX (g.cs u) (g.ls u) u ds = (g.ls u).filter (fun x => !dotIn ds x.r x.n) := by
  unfold Go.RV.opX
  rw [if_pos (I.opE hm hu)]
theorem Ka.op_cs (g : Ka) (u : Nat) (is : Bool) (v : List UInt8) (ds : List (Int × Int)) : (g.op u is v ds).cs u = upd (g.cs u) u (mostN (g.cs u) 8 + 1) := upf_same _ _ _
theorem Ka.op_ls (g : Ka) (u : Nat) (is : Bool) (v : List UInt8) (ds : List (Int × Int)) : (g.op u is v ds).ls u = (g.ls u).filter (fun x => !dotIn ds x.r x.n) ++ (if is = true then [⟨u, mostN (g.cs u) 8 + 1, v⟩] else []) := upf_same _ _ _
theorem Ka.join_cs (g : Ka) (u f : Nat) : (g.join u f).cs u = joinV (g.cs u) (g.cs f) := upf_same _ _ _
theorem Ka.join_ls (g : Ka) (u f : Nat) : (g.join u f).ls u = jnS (g.cs u) (g.cs f) (g.ls u) (g.ls f) := upf_same _ _ _
def regsR (g : Ka) (As : Nat → Option Addr) (ca : Nat → Nat) : Nat → Rg := fun u => ⟨g.cs u, As u, (g.ls u).length, ca u⟩
/-- how one act ends -/
structure OneR (g : Ka) (a : Ac) (u f : Nat) (v : Value) (Lv : LM) : Prop where
  out : ∃ F A c xs r n V e, v = .tuple #[regV F A xs.length c, dotV r n, V, .int .i64 e] ∧ RdIn Lv A (flat encX xs) ∧ (e = 7 ∨ (e = 0 ∧
    ((a.k.tmod 5 < 3 ∧ ∃ ds B d, V = .slice B ds.length d ∧ RdIn Lv B (flat encD ds) ∧ ds.length ≤ 8 ∧ (∀ d ∈ ds, ∃ x ∈ g.ls u, key x = d) ∧ r = (u : Int) ∧ n = mostN (g.cs u) 8 + 1 ∧ F = (g.op u (decide (a.k.tmod 5 < 2)) a.v ds).cs u ∧ xs = (g.op u (decide (a.k.tmod 5 < 2)) a.v ds).ls u ∧ xs.length ≤ 8) ∨
     (3 ≤ a.k.tmod 5 ∧ r = 0 ∧ n = 0 ∧ V = .slice none 0 0 ∧ F = (g.join u f).cs u ∧ xs = (g.join u f).ls u ∧ xs.length ≤ 8))))
theorem oneK_c {g : Ka} {m : Nat} (I : Ki g m) (hm : m < 60000) (As : Nat → Option Addr) (ca : Nat → Nat) (b : Nat) (a : Ac) (ha : a.ok) (w : World) (hQ : Rd w (some ⟨b, 0, none⟩) (rgsL (regsR g As ca))) (hL : ∀ u, u < 4 → Rd w (As u) (flat encX (g.ls u))) (u : Nat) (hu4 : u < 4) (hu : a.r.tmod 4 = (u : Int)) (f : Nat) (hf4 : f < 4) (hf : a.f.tmod 4 = (f : Int)) :
    Fc Try.prog 26 [.pointer (some ⟨b, 0, none⟩), .agg (encAc a).toArray] w fun v w' => ∃ Lv, OneR g a u f v Lv ∧ St [] w w' Lv := by
  have hcs : ∀ u, u < 4 → ∀ j, j < 8 → 0 ≤ g.cs u j ∧ g.cs u j ≤ 4294967295 := fun u hu j hj => by have := I.cs0 hu hj; omega
  have hr : ∀ u, u < 4 → ∀ x ∈ g.ls u, 0 ≤ x.r := fun u hu x hx => by
    obtain ⟨e, he, _, rfl, _⟩ := (I.mem u x hu).1 hx
    exact (I.rng u e hu he).1
  have hk0 : 0 ≤ a.k.tmod 5 ∧ a.k.tmod 5 < 5 := by
    have h1 := ha.1.1
    rw [Int.tmod_eq_emod_of_nonneg h1]
    omega
  by_cases h3 : 3 ≤ a.k.tmod 5
  · refine (oneJ_c g.cs g.ls As ca hcs I.len hr b a w hQ hL u hu4 hu f hf4 hf h3).mono ?_
    rintro v w' ⟨A', c', Lr, rfl, hv, hS⟩
    refine ⟨Lr, ⟨_, A', c', _, _, _, _, _, rfl, hv.rdIn, ?_⟩, hS⟩
    have ck1 := I.check (by omega) hu4
    have ck2 := I.check (by omega) hf4
    have hE := jnE_eq ck1 ck2
    by_cases h8 : 8 < (jnS (g.cs u) (g.cs f) (g.ls u) (g.ls f)).length
    · left
      rw [hE, if_pos h8]
    · rw [if_neg h8] at hE
      refine .inr ⟨hE, .inr ⟨h3, rfl, rfl, rfl, ?_, ?_, ?_⟩⟩
      · rw [jnF_eq hE, Ka.join_cs]
      · rw [jnX_eq hE, Ka.join_ls]
      · rw [jnX_eq hE]; omega
  · by_cases h2 : a.k.tmod 5 = 2
    · refine (oneD_c g.cs g.ls As ca hcs I.len hr b a w hQ hL u hu4 hu h2).mono ?_
      rintro v w' ⟨ds, B, d, Lo, A', c', Lr, rfl, hvo, hds, hdl, hv, hS⟩
      refine ⟨Lr ++ Lo, ⟨_, A', c', _, _, _, _, _, rfl, hv.rdIn.mono (fun x hx => List.mem_append_left _ hx), ?_⟩, hS⟩
      have hdec : decide (a.k.tmod 5 < 2) = false := decide_eq_false (by omega)
      refine .inr ⟨I.opE hm hu4, .inl ⟨by omega, ds, B, d, rfl, hvo.rdIn.mono (fun x hx => List.mem_append_right _ hx), hdl, hds, I.opR hm hu4, I.opN hm hu4, ?_, ?_, ?_⟩⟩
      · rw [I.opF hm hu4, Ka.op_cs]
      · rw [I.opX hm hu4, Ka.op_ls, hdec]
        simp
      · rw [I.opX hm hu4]
        exact Nat.le_trans (List.length_filter_le _ _) (I.len u hu4)
    · refine (oneW_c g.cs g.ls As ca hcs I.len hr b a w hQ hL u hu4 hu (by omega)).mono ?_
      rintro v w' ⟨ds, B, d, Lo, A', c', Lr, rfl, hvo, hds, hdl, hv, hS⟩
      refine ⟨Lr ++ Lo, ⟨_, A', c', _, _, _, _, _, rfl, hv.rdIn.mono (fun x hx => List.mem_append_left _ hx), ?_⟩, hS⟩
      have hdec : decide (a.k.tmod 5 < 2) = true := decide_eq_true (by omega)
      have h0 := I.opE hm hu4
      have hE : wrE (g.cs u) (g.ls u) u ds = if (Go.RV.opX (g.cs u) (g.ls u) u ds).length = 8 then 7 else 0 := by unfold wrE; rw [if_pos h0]
      by_cases h8 : (Go.RV.opX (g.cs u) (g.ls u) u ds).length = 8
      · left
        rw [hE, if_pos h8]
      · rw [if_neg h8] at hE
        have hX : wrX (g.cs u) (g.ls u) u ds a.v = Go.RV.opX (g.cs u) (g.ls u) u ds ++ [⟨Go.RV.opR (g.cs u) (g.ls u) u, Go.RV.opN (g.cs u) (g.ls u) u, a.v⟩] := by unfold wrX; rw [if_pos hE]
        refine .inr ⟨hE, .inl ⟨by omega, ds, B, d, rfl, hvo.rdIn.mono (fun x hx => List.mem_append_right _ hx), hdl, hds, ?_, ?_, ?_, ?_, ?_⟩⟩
        · unfold wrR; rw [if_pos hE]; exact I.opR hm hu4
        · unfold wrN; rw [if_pos hE]; exact I.opN hm hu4
        · unfold wrF; rw [if_pos hE, I.opF hm hu4, Ka.op_cs]
        · rw [hX, I.opX hm hu4, I.opR hm hu4, I.opN hm hu4, Ka.op_ls, hdec]
          simp
        · rw [hX, List.length_append]
          have := opX_len (g.cs u) (g.ls u) u ds
          have := I.len u hu4
          simp only [List.length_cons, List.length_nil]
          omega
theorem rgsL_len (R : Nat → Rg) : (rgsL R).length = 36 := by
  unfold rgsL
  rw [flat_length encRg_len]
  simp
theorem rgsL_part (R : Nat → Rg) {u : Nat} (hu : u < 4) {j : Nat} (hj : j < 9) : (rgsL R)[u * 9 + j]? = (encRg (R u))[j]? := by
  have := flat_get encRg_len ((List.range 4).map R) u (by simpa using hu) j hj
  rw [List.getElem_map, List.getElem_range] at this
  exact this
theorem rgsL_set (R : Nat → Rg) {u : Nat} (hu : u < 4) (x : Rg) : setsL (rgsL R) (u * 9) (encRg x) = rgsL (upf R u x) := by
  rw [setsL_eq _ _ _ (by rw [encRg_len, rgsL_len]; omega), encRg_len]
  rcases (show u = 0 ∨ u = 1 ∨ u = 2 ∨ u = 3 by omega) with rfl | rfl | rfl | rfl <;> rfl
section
variable {P : Program} {M : List Nat} {w0 w : World} {F L : LM}
theorem stRg {b off : Nat} {R : Nat → Rg} {x : Rg} {e : TypeId} {u : Nat} {K : World → Prop} (hS : Sf M w0 w F L) (k : Nat) (hk : L[k]? = some (b, .cells (rgsL R).toArray e (0, 0))) (hu : u < 4) (ho : off = u * 9)
    (h : setLK L k (b, .cells (rgsL (upf R u x)).toArray e (0, 0)) fun L' => ∀ w', Sf M w0 w' F L' → K w') : StN P w ⟨b, off, none⟩ (encRg x) K := by
  subst ho
  refine stM_f hS k hk (by show u * 9 + 9 ≤ (rgsL R).length; rw [rgsL_len]; omega) rfl (setsK_i ?_)
  rw [show (rgsL R).toArray.toList = rgsL R from rfl, rgsL_set R hu]
  exact h
theorem ldRg9 {b o : Nat} {R : Nat → Rg} {e : TypeId} {fz : Nat × Nat} (hS : Sf M w0 w F L) (k : Nat) (hk : L[k]? = some (b, .cells (rgsL R).toArray e fz)) {u : Nat} (hu : u < 4) (ho : o = u * 9) {K : List Value → Prop} (h : K (encRg (R u))) : LdN w ⟨b, o, none⟩ 9 K :=
  ldRg (hS.rd k hk) hu ho h
theorem ldRg8 {b o : Nat} {R : Nat → Rg} {e : TypeId} {fz : Nat × Nat} (hS : Sf M w0 w F L) (k : Nat) (hk : L[k]? = some (b, .cells (rgsL R).toArray e fz)) {u : Nat} (hu : u < 4) (ho : o = u * 9) {K : List Value → Prop} (h : K (vecF (R u).f)) : LdN w ⟨b, o, none⟩ 8 K := by
  subst ho
  refine ldN_i (vecF (R u).f) rfl ?_ h
  intro j hj
  rw [add_none]
  have h1 := rgsL_part R hu (show j < 9 by omega)
  have h2 : (encRg (R u))[j]? = (vecF (R u).f)[j]? := by
    unfold encRg
    exact List.getElem?_append_left hj
  rw [h2, vget hj rfl] at h1
  rw [vget hj rfl]
  exact hS.cell k hk h1
end
end Go.RV
