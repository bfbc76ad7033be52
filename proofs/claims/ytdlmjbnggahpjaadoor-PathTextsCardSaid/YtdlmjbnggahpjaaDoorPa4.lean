/- Contracts of functions of chapter 4: numbers as digits. Conditions: none. -/
import Derived.Test.YtdlmjbnggahpjaaDoorPa3
import Derived.Test.YtdlmjbnggahpjaaDoorPa2
import Derived.Test.YtdlmjbnggahpjaaDoorS3
set_option maxRecDepth 20000
set_option linter.unusedVariables false
set_option linter.unusedSimpArgs false
namespace Go.RV
open Go Go.Proofs Go.RowKit

def Tab10 (w : World) : Prop := Lib.TabIs Tryd.prog w "internal/strconv.uint64pow10" .u64 Lib.pow10Tab
theorem Tab10.below {w w' : World} {L : LM} (h : Tab10 w) (hS : St [] w w' L) : Tab10 w' := Lib.tabBelow_of_tabIs h w' hS.below
theorem small_c (i : Nat) (h : i < 100) (w : World) : Fc Tryd.prog 95 [.int .i64 i] w fun v w' => v = .string (strY (Lib.decDigits i)) ∧ St [] w w' [] := by
  refine fc_of_calls Tryd.func95 rfl (by kernel_rfl) ?_
  exact (Any.internal_strconv_small (P := Tryd.prog) (ρ := ren171) { lays171 with } i h w).mono fun e w' ⟨he, hw⟩ => ⟨_, he, rfl, hw ▸ St.refl _⟩
theorem nd_c (u : Nat) (h1 : 1 ≤ u) (h2 : u < 18446744073709551616) (w : World) (ht : Tab10 w) : Fc Tryd.prog 96 [.int .u64 u] w fun v w' => v = .int .i64 (Lib.nDigits u) ∧ St [] w w' [] := by
  refine fc_of_calls Tryd.func96 rfl (by kernel_rfl) ?_
  exact (Any.internal_strconv_numDigits (P := Tryd.prog) (ρ := ren171) { lays171 with } u h1 h2 w ht).mono fun e w' ⟨he, hw⟩ => ⟨_, he, rfl, hw ▸ St.refl _⟩
theorem fmt10_c (b : Nat) (n cap : Nat) (u : Nat) (hu : u < 18446744073709551616) (hn : n = Lib.nDigits u) (hn24 : n ≤ 24) (w : World) (hb : w.heap[b]? = some (.cells (Array.replicate 24 (.int .u8 0)) 125 (0, 0))) :
    Fc Tryd.prog 97 [.slice (some ⟨b, 0, none⟩) n cap, .int .u64 u] w fun v w' => ∃ cs : Array Value, (∀ j (h : j < (Lib.decDigits u).length), cs.toList[j]? = some (.int .u8 ((Lib.decDigits u)[j].toNat : Int))) ∧ St [b] w w' [(b, .cells cs 125 (0, 0))] := by
  refine fc_of_calls Tryd.func97 rfl (by kernel_rfl) ?_
  have hH : Go.Sort.Holds (fun (b : UInt8) => Value.int .u8 (b.toNat : Int)) w b 0 (Array.replicate n (0 : UInt8)) := fun j hj => by
    rw [Array.size_replicate] at hj
    rw [getElem!_pos _ j (by rw [Array.size_replicate]; exact hj)]
    have h24 : j < 24 := by omega
    refine ⟨?_, ?_⟩
    · simp only [World.cell?, hb, Nat.zero_add]
      rw [Array.getElem?_replicate, if_pos h24]
      simp
    · simp only [World.frozen?, hb, Nat.zero_add]
      simp
  have h := Any.internal_strconv_formatBase10 (P := Tryd.prog) (ρ := ren171) { lays171 with } b 0 cap u (Array.replicate n 0) w hH (by rw [Array.size_replicate, hn]; exact Lib.lt_pow_nDigits u) hu (by rw [Array.size_replicate]; omega)
  rw [Array.size_replicate] at h
  refine h.mono ?_
  rintro e w' ⟨rfl, k, v', dk, rfl, hF⟩
  refine ⟨_, rfl, (Array.replicate 24 (.int .u8 0)).mapIdx (fun k x => if 0 ≤ k ∧ k < 0 + dk.size then (.int .u8 (dk[k - 0]!.toNat : Int)) else x), fun j hj => ?_, ?_⟩
  · subst hn
    have hjn : j < Lib.nDigits u := by rw [Lib.decDigits_length] at hj; exact hj
    rw [Lib.row_is_numeral hF j hj]
    have hs : dk.size = Lib.nDigits u := hF.size
    rw [Array.getElem?_toList, Array.getElem?_mapIdx, Array.getElem?_replicate, if_pos (by omega)]
    simp only [Option.map_some, Nat.sub_zero]
    rw [if_pos ⟨Nat.zero_le _, by omega⟩]
  · have e1 : ((Go.Sort.putRow (fun (b : UInt8) => Value.int .u8 (b.toNat : Int)) w b 0 dk).drewN k).heap = w.heap.modify b (Go.Sort.onCells (Go.Sort.putCells (fun (b : UInt8) => Value.int .u8 (b.toNat : Int)) 0 dk)) := rfl
    refine ⟨rfl, rfl, rfl, ?_, ?_, ?_, ?_, by simp⟩
    · rw [e1]; simp
    · intro j hj hjM
      rw [e1, Array.getElem?_modify, if_neg (fun h => hjM (by simp [h]))]
    · intro b' o hm
      obtain ⟨rfl, rfl⟩ := Prod.mk.inj (List.mem_singleton.1 hm)
      rw [e1, Array.getElem?_modify, if_pos rfl, hb]
      rfl
    · intro b' o hm
      obtain ⟨rfl, rfl⟩ := Prod.mk.inj (List.mem_singleton.1 hm)
      exact .inr (by simp)
/-- the beginning of an array, as a slice -/
theorem slArr_i {P : Program} {o : Oper} {ρ : Operand → Value} {t e : TypeId} {x hi : Operand} {b off : Nat} {n m : Nat} {w : World} {K : Value → World → Prop} {sz : Nat} (ho : o.op = .slice t x none (some hi) none) (hx : ρ x = .pointer (some ⟨b, off, none⟩)) (hh : ρ hi = .int .i64 (n : Int)) (hu : P.underlying t = some (.array m e)) (hsz : (sizeOf e).run P w = .ok sz w) (hn : n ≤ m) (hpos : 0 < m)
    (k : K (.slice (some ⟨b, off, none⟩) n m) w) : SemN P (execOp ρ o) w (NextW P K) := by
  have hal : P.arrayLen t = m := by simp [Program.arrayLen, hu]
  have hel : P.elem t = e := by simp [Program.elem, hu]
  refine ⟨SemW.of_run (a := .value (.slice (some ⟨b, off, none⟩) n m)) (w' := w) ?_ k⟩
  have hrun := run_sliceAt_array_h (P := P) w t ⟨b, off, none⟩ (by simp [Program.arrayLen, Program.elem, hu]) .i64 (n : Int) (by omega) (by rw [hal]; omega)
  rw [hel, hsz, hal] at hrun
  unfold execOp
  simp only [ho, hx, hh, Option.map_none, Option.map_some, Sem.run_bind, hrun, Result.andThen_ok]
  simp only [slicedAt]
  rw [if_neg (by omega), add_none]
  simp
theorem slA_i {o : Oper} {ρ : Operand → Value} {x hi : Operand} {b off : Nat} {n : Nat} {w : World} {K : Value → World → Prop} (ho : o.op = .slice 125 x none (some hi) none) (hx : ρ x = .pointer (some ⟨b, off, none⟩)) (hh : ρ hi = .int .i64 (n : Int)) (hn : n ≤ 24)
    (k : K (.slice (some ⟨b, off, none⟩) n 24) w) : SemN Tryd.prog (execOp ρ o) w (NextW Tryd.prog K) := slArr_i (m := 24) ho hx hh Tryd.underlying125 (run_sizeOf_ok TB_ok rfl _) hn (by decide) k
theorem ifmtU_c (u : Nat) (hu : u < 18446744073709551616) (w : World) (ht : Tab10 w) : Fc Tryd.prog 80 [.int .u64 u, .int .i64 10] w fun v w' => v = .string (strY (Lib.decDigits u)) ∧ St [] w w' [] := by
  refine fc_i TB_ok Tryd.func80 rfl (by kernel_rfl) ?_
  have hS := Sf.refl w
  by_cases h1 : u < 100
  · have g : decide ((u : Int) < 100) = true := decide_eq_true (by omega)
    have hw : IntKind.i64.wrap (u : Int) = (u : Int) := wrap_i64 (by omega) (by omega)
    have hc := fun w => small_c u h1 w
    rw [← hw] at hc
    repeat ((conv => whnf); first | (apply q_i; focus (intro w1 hS; (conv => whnf); first | exact ⟨rfl, rfl⟩ | ((refine fc_m (hc _) ?_; rintro v w3 ⟨rfl, hS'⟩; replace hS := hS.call0 hS'); (conv => whnf); exact ⟨rfl, rfl⟩))) | (refine nw_f hS ?_; intro b w1 hS) | (refine as_i hS ?_) | (refine as_i (hS.subs (List.nil_sublist _) (by repeat (first | exact List.Sublist.refl _ | apply List.Sublist.cons_cons | apply List.Sublist.cons))) ?_) | (refine as_i (hS.subs (List.Sublist.refl _) (by repeat (first | exact List.Sublist.refl _ | apply List.Sublist.cons_cons | apply List.Sublist.cons))) ?_) | (refine bar_f hS ?_) | (refine fc_m (hc _) ?_; rintro v w3 ⟨rfl, hS'⟩; replace hS := hS.call0 hS') | (refine drawf TB_ok rfl (by kernel_rfl) (by kernel_rfl) hS (List.Sublist.refl _) (List.Sublist.refl _) ?_; intro w1 hS) | (refine br_t (by assumption) ?_) | (refine br_f (by assumption) ?_))
    exact ⟨rfl, hS.nil⟩
  · have g : decide ((u : Int) < 100) = false := decide_eq_false (by omega)
    have hnd : Lib.nDigits u ≤ 20 := by have := Lib.numDigits_eq u (by omega) hu; split at this <;> omega
    have hln := Lib.decDigits_length u
    repeat ((conv => whnf); first | (apply q_i; focus (intro w1 hS; (conv => whnf); first | exact ⟨rfl, rfl⟩ | ((refine ld_f hS 0 rfl rfl ?_); (conv => whnf); exact ⟨rfl, rfl⟩) | ((refine ldA_f hS 0 rfl rfl ?_); (conv => whnf); exact ⟨rfl, rfl⟩) | ((refine fc_m (nd_c u (by omega) hu _ (ht.below hS.nil)) ?_; rintro v w3 ⟨rfl, hS'⟩; replace hS := hS.call0 hS'); (conv => whnf); exact ⟨rfl, rfl⟩) | ((refine slA_i rfl rfl rfl (by omega) ?_); (conv => whnf); exact ⟨rfl, rfl⟩))) | (refine nw_f hS ?_; intro b w1 hS) | (refine as_i hS ?_) | (refine as_i (hS.subs (List.nil_sublist _) (by repeat (first | exact List.Sublist.refl _ | apply List.Sublist.cons_cons | apply List.Sublist.cons))) ?_) | (refine as_i (hS.subs (List.Sublist.refl _) (by repeat (first | exact List.Sublist.refl _ | apply List.Sublist.cons_cons | apply List.Sublist.cons))) ?_) | (refine bar_f hS ?_) | (refine ld_f hS 0 rfl rfl ?_) | (refine ldA_f hS 0 rfl rfl ?_) | (refine stN_f hS 0 rfl (Nat.le_of_ble_eq_true rfl) rfl rfl ?_; (conv => whnf); intro w1 hS) | (refine stM_f hS 0 rfl (Nat.le_of_ble_eq_true rfl) rfl ?_; (conv => whnf); intro w1 hS) | (refine fc_m (nd_c u (by omega) hu _ (ht.below hS.nil)) ?_; rintro v w3 ⟨rfl, hS'⟩; replace hS := hS.call0 hS') | (refine slA_i rfl rfl rfl (by omega) ?_) | (refine drawf TB_ok rfl (by kernel_rfl) (by kernel_rfl) hS (List.Sublist.refl _) (List.Sublist.refl _) ?_; intro w1 hS) | (refine br_t (by assumption) ?_) | (refine br_f (by assumption) ?_))
    refine fc_m (fmt10_c _ (Lib.nDigits u) 24 u hu rfl (by omega) _ (hS.st.block 0 rfl)) ?_
    rintro v w4 ⟨cs, hcs, hS'⟩
    have hS2 : Sf [] w _ ([_] ++ []) [] := ⟨by simpa using hS.st⟩
    replace hS : Sf [] w w4 [] [_] := ⟨by simpa using (hS2.callW hS').st⟩
    have hRd : Rd w4 (some ⟨b, 0, none⟩) (flat encY (Lib.decDigits u)) := .inr ⟨b, 0, rfl, fun j v hj => by
      have hjl : j < (Lib.decDigits u).length := by
        have := (List.getElem?_eq_some_iff.1 hj).1
        rwa [flat_length encY_len, Nat.mul_one] at this
      rw [flatY_get hjl] at hj
      rw [Nat.zero_add]
      exact hS.cell 0 rfl ((hcs j hjl).trans hj)⟩
    have hcv := fun K k => bStr_i (K := K) Tryd.underlying84 Tryd.underlying5 Tryd.underlying9 hRd hln.symm (n := Lib.nDigits u) (c := 24) k
    repeat ((conv => whnf); first | (apply q_i; focus (intro w1 hS; (conv => whnf); first | exact ⟨rfl, rfl⟩ | ((refine ld_f hS 0 rfl rfl ?_); (conv => whnf); exact ⟨rfl, rfl⟩) | ((refine ldA_f hS 0 rfl rfl ?_); (conv => whnf); exact ⟨rfl, rfl⟩) | ((refine slA_i rfl rfl rfl (by omega) ?_); (conv => whnf); exact ⟨rfl, rfl⟩) | ((refine hcv _ ?_); (conv => whnf); exact ⟨rfl, rfl⟩))) | (refine nw_f hS ?_; intro b w1 hS) | (refine as_i hS ?_) | (refine as_i (hS.subs (List.nil_sublist _) (by repeat (first | exact List.Sublist.refl _ | apply List.Sublist.cons_cons | apply List.Sublist.cons))) ?_) | (refine as_i (hS.subs (List.Sublist.refl _) (by repeat (first | exact List.Sublist.refl _ | apply List.Sublist.cons_cons | apply List.Sublist.cons))) ?_) | (refine bar_f hS ?_) | (refine ld_f hS 0 rfl rfl ?_) | (refine ldA_f hS 0 rfl rfl ?_) | (refine stN_f hS 0 rfl (Nat.le_of_ble_eq_true rfl) rfl rfl ?_; (conv => whnf); intro w1 hS) | (refine stM_f hS 0 rfl (Nat.le_of_ble_eq_true rfl) rfl ?_; (conv => whnf); intro w1 hS) | (refine slA_i rfl rfl rfl (by omega) ?_) | (refine hcv _ ?_) | (refine drawf TB_ok rfl (by kernel_rfl) (by kernel_rfl) hS (List.Sublist.refl _) (List.Sublist.refl _) ?_; intro w1 hS) | (refine br_t (by assumption) ?_) | (refine br_f (by assumption) ?_))
    exact ⟨rfl, hS.nil⟩
theorem fmtU_c (u : Nat) (hu : u < 18446744073709551616) (w : World) (ht : Tab10 w) : Fc Tryd.prog 64 [.int .u64 u, .int .i64 10] w fun v w' => v = .string (strY (Lib.decDigits u)) ∧ St [] w w' [] := by
  refine fc_i TB_ok Tryd.func64 rfl (by kernel_rfl) ?_
  have hS := Sf.refl w
  repeat ((conv => whnf); first | (apply q_i; focus (intro w1 hS; (conv => whnf); first | exact ⟨rfl, rfl⟩ | ((refine fc_m (ifmtU_c u hu _ (ht.below hS.nil)) ?_; rintro v w3 ⟨rfl, hS'⟩; replace hS := hS.call0 hS'); (conv => whnf); exact ⟨rfl, rfl⟩))) | (refine nw_f hS ?_; intro b w1 hS) | (refine as_i hS ?_) | (refine as_i (hS.subs (List.nil_sublist _) (by repeat (first | exact List.Sublist.refl _ | apply List.Sublist.cons_cons | apply List.Sublist.cons))) ?_) | (refine as_i (hS.subs (List.Sublist.refl _) (by repeat (first | exact List.Sublist.refl _ | apply List.Sublist.cons_cons | apply List.Sublist.cons))) ?_) | (refine bar_f hS ?_) | (refine fc_m (ifmtU_c u hu _ (ht.below hS.nil)) ?_; rintro v w3 ⟨rfl, hS'⟩; replace hS := hS.call0 hS') | (refine drawf TB_ok rfl (by kernel_rfl) (by kernel_rfl) hS (List.Sublist.refl _) (List.Sublist.refl _) ?_; intro w1 hS) | (refine br_t (by assumption) ?_) | (refine br_f (by assumption) ?_))
  exact ⟨rfl, hS.nil⟩
/-- what the library's own errors' variables hold: nothing, or an error -/
structure Errs (w : World) : Prop where
  syn : ∃ ev, w.cell? ⟨1, 0, none⟩ = some ev ∧ (ev = .nilIface ∨ ∃ te pe, ev = .iface te pe)
  rng : ∃ ev, w.cell? ⟨2, 0, none⟩ = some ev ∧ (ev = .nilIface ∨ ∃ te pe, ev = .iface te pe)
theorem Errs.below {w w' : World} {L : LM} (h : Errs w) (hS : St [] w w' L) : Errs w' := by
  obtain ⟨⟨e1, h1, k1⟩, ⟨e2, h2, k2⟩⟩ := h
  exact ⟨⟨e1, (hS.below.cell (Lib.lt_of_cell h1)).trans h1, k1⟩, ⟨e2, (hS.below.cell (Lib.lt_of_cell h2)).trans h2, k2⟩⟩
theorem parseU_c (l : List UInt8) (hl : l.length ≤ 281474976710656) (w : World) (he : Errs w) : Fc Tryd.prog 63 [.string (strY l), .int .i64 10, .int .i64 32] w fun v w' =>
    (∃ (n : Nat) (e : Value), v = .tuple #[.int .u64 n, e] ∧ n ≤ 4294967295 ∧ ((Lib.parseUintB 32 l = .ok n ∧ e = .nilIface) ∨ ((∀ u, Lib.parseUintB 32 l ≠ .ok u) ∧ ∃ t p, e = .iface t p))) ∧ St [] w w' [] := by
  obtain ⟨⟨e1, h1, k1⟩, ⟨e2, h2, k2⟩⟩ := he
  refine fc_of_calls Tryd.func63 rfl (by kernel_rfl) ?_
  have hz := strY_size l
  have hd : (strY l).data.toList = l := by simp [strY]
  cases hp : Lib.parseUintB 32 l with
  | ok u =>
    have h := Any.strconv_ParseUint_10_at32_ok (P := Tryd.prog) (ρ := renpu14) layspu14 (strY l) (by omega) u (by rw [hd]; exact hp) w
    refine h.mono fun e w' ⟨he, hw⟩ => ⟨_, he, ⟨u, .nilIface, rfl, ?_, .inl ⟨rfl, rfl⟩⟩, ?_⟩
    · have := Lib.parseUintB_le hp; omega
    · refine St.of_below' ?_
      rcases hw with rfl | rfl
      · exact Below.refl _ _
      · exact Lib.bytesWorld_below _ _ _
  | «syntax» =>
    have h := Any.strconv_ParseUint_10_at32_syntax (P := Tryd.prog) (ρ := renpu14) layspu14 (strY l) (by omega) (by rw [hd]; exact hp) e1 w h1 k1
    refine h.mono fun e w' ⟨N, he, _, _, hb⟩ => ⟨_, he, ⟨0, _, rfl, by omega, .inr ⟨fun u hu => (by cases hu), _, _, rfl⟩⟩, St.of_below' hb⟩
  | range =>
    have h := Any.strconv_ParseUint_10_at32_range (P := Tryd.prog) (ρ := renpu14) layspu14 (strY l) (by omega) (by rw [hd]; exact hp) e2 w h2 k2
    refine h.mono fun e w' ⟨N, he, _, _, hb⟩ => ⟨_, he, ⟨4294967295, _, rfl, by omega, .inr ⟨fun u hu => (by cases hu), _, _, rfl⟩⟩, St.of_below' hb⟩
/-- what digits say, if they say it as numbers are written -/
def numV (most : Nat) (l : List UInt8) : Option Nat := match Lib.parseUintB 32 l with
  | .ok u => if u ≤ most ∧ Lib.decDigits u = l then some u else none
  | _ => none
theorem number_c (l : List UInt8) (hl : l.length ≤ 281474976710656) (most : Nat) (w : World) (he : Errs w) (ht : Tab10 w) : Fc Tryd.prog 44 [.string (strY l), .int .u64 most] w fun v w' =>
    (∃ n : Nat, v = .tuple #[.int .u64 n, .bool (numV most l).isSome] ∧ n ≤ 4294967295 ∧ ∀ u, numV most l = some u → n = u) ∧ St [] w w' [] := by
  refine fc_i TB_ok Tryd.func44 rfl (by kernel_rfl) ?_
  have hS := Sf.refl w
  repeat ((conv => whnf); first | (apply q_i; focus (intro w1 hS; (conv => whnf); first | exact ⟨rfl, rfl⟩)) | (refine nw_f hS ?_; intro b w1 hS) | (refine as_i hS ?_) | (refine as_i (hS.subs (List.nil_sublist _) (by repeat (first | exact List.Sublist.refl _ | apply List.Sublist.cons_cons | apply List.Sublist.cons))) ?_) | (refine as_i (hS.subs (List.Sublist.refl _) (by repeat (first | exact List.Sublist.refl _ | apply List.Sublist.cons_cons | apply List.Sublist.cons))) ?_) | (refine bar_f hS ?_) | (refine drawf TB_ok rfl (by kernel_rfl) (by kernel_rfl) hS (List.Sublist.refl _) (List.Sublist.refl _) ?_; intro w1 hS) | (refine br_t (by assumption) ?_) | (refine br_f (by assumption) ?_))
  refine fc_m (parseU_c l hl _ (he.below hS.nil)) ?_
  rintro v w1 ⟨⟨n, e, rfl, hn, hc⟩, hS'⟩
  replace hS := hS.call0 hS'
  rcases hc with ⟨hp, rfl⟩ | ⟨hp, t, p, rfl⟩
  · by_cases h1 : n ≤ most
    · have g1 : decide ((n : Int) ≤ (most : Int)) = true := decide_eq_true (by omega)
      have hf := fun w h => fmtU_c n (by omega) w h
      have hq := streq_strY (Lib.decDigits n) l
      repeat ((conv => whnf); first | (apply q_i; focus (intro w1 hS; (conv => whnf); first | exact ⟨rfl, rfl⟩ | ((refine fc_m (hf _ (ht.below hS.nil)) ?_; rintro v w3 ⟨rfl, hS'⟩; replace hS := hS.call0 hS'); (conv => whnf); exact ⟨rfl, rfl⟩))) | (refine nw_f hS ?_; intro b w1 hS) | (refine as_i hS ?_) | (refine as_i (hS.subs (List.nil_sublist _) (by repeat (first | exact List.Sublist.refl _ | apply List.Sublist.cons_cons | apply List.Sublist.cons))) ?_) | (refine as_i (hS.subs (List.Sublist.refl _) (by repeat (first | exact List.Sublist.refl _ | apply List.Sublist.cons_cons | apply List.Sublist.cons))) ?_) | (refine bar_f hS ?_) | (refine fc_m (hf _ (ht.below hS.nil)) ?_; rintro v w3 ⟨rfl, hS'⟩; replace hS := hS.call0 hS') | (refine drawf TB_ok rfl (by kernel_rfl) (by kernel_rfl) hS (List.Sublist.refl _) (List.Sublist.refl _) ?_; intro w1 hS) | (refine br_t (by assumption) ?_) | (refine br_f (by assumption) ?_))
      refine ⟨⟨n, ?_, hn, ?_⟩, hS.nil⟩
      · unfold numV
        rw [hp, hq]
        by_cases h2 : Lib.decDigits n = l <;> simp [h1, h2]
      · intro u hu
        unfold numV at hu
        rw [hp] at hu
        simp only at hu
        split at hu
        · exact Option.some.inj hu
        · cases hu
    · have g1 : decide ((n : Int) ≤ (most : Int)) = false := decide_eq_false (by omega)
      repeat ((conv => whnf); first | (apply q_i; focus (intro w1 hS; (conv => whnf); first | exact ⟨rfl, rfl⟩)) | (refine nw_f hS ?_; intro b w1 hS) | (refine as_i hS ?_) | (refine as_i (hS.subs (List.nil_sublist _) (by repeat (first | exact List.Sublist.refl _ | apply List.Sublist.cons_cons | apply List.Sublist.cons))) ?_) | (refine as_i (hS.subs (List.Sublist.refl _) (by repeat (first | exact List.Sublist.refl _ | apply List.Sublist.cons_cons | apply List.Sublist.cons))) ?_) | (refine bar_f hS ?_) | (refine drawf TB_ok rfl (by kernel_rfl) (by kernel_rfl) hS (List.Sublist.refl _) (List.Sublist.refl _) ?_; intro w1 hS) | (refine br_t (by assumption) ?_) | (refine br_f (by assumption) ?_))
      have hnone : numV most l = none := by unfold numV; rw [hp]; simp [h1]
      exact ⟨⟨n, by rw [hnone]; rfl, hn, by rw [hnone]; intro u hu; cases hu⟩, hS.nil⟩
  · repeat ((conv => whnf); first | (apply q_i; focus (intro w1 hS; (conv => whnf); first | exact ⟨rfl, rfl⟩)) | (refine nw_f hS ?_; intro b w1 hS) | (refine as_i hS ?_) | (refine as_i (hS.subs (List.nil_sublist _) (by repeat (first | exact List.Sublist.refl _ | apply List.Sublist.cons_cons | apply List.Sublist.cons))) ?_) | (refine as_i (hS.subs (List.Sublist.refl _) (by repeat (first | exact List.Sublist.refl _ | apply List.Sublist.cons_cons | apply List.Sublist.cons))) ?_) | (refine bar_f hS ?_) | (refine drawf TB_ok rfl (by kernel_rfl) (by kernel_rfl) hS (List.Sublist.refl _) (List.Sublist.refl _) ?_; intro w1 hS) | (refine br_t (by assumption) ?_) | (refine br_f (by assumption) ?_))
    have hnone : numV most l = none := by
      unfold numV
      split
      · rename_i u hu; exact absurd hu (hp u)
      · rfl
    exact ⟨⟨n, by rw [hnone]; rfl, hn, by rw [hnone]; intro u hu; cases hu⟩, hS.nil⟩
/-- a conflict name, split: the name, the dot, and whether it is one -/
def splitT (s : List UInt8) : List UInt8 × (Int × Int) × Bool :=
  let c := cutP 126 s
  let d := cutP 46 c.2.1
  match numV 7 d.1, numV 65535 d.2.1 with
  | some r, some n => if (nameB c.1 && decide (1 ≤ n)) = true then (c.1, ((r : Int), (n : Int)), true) else (s, (0, 0), false)
  | _, _ => (s, (0, 0), false)
theorem numV_le {most : Nat} {l : List UInt8} {u : Nat} (h : numV most l = some u) : u ≤ most := by
  unfold numV at h
  split at h
  · split at h
    · rename_i hc
      have := Option.some.inj h
      omega
    · cases h
  · cases h
theorem cutP_len (c : UInt8) : ∀ l : List UInt8, (cutP c l).1.length ≤ l.length ∧ (cutP c l).2.1.length ≤ l.length
  | [] => ⟨Nat.le_refl _, Nat.le_refl _⟩
  | b :: r => by
    unfold cutP
    have := cutP_len c r
    split
    · simp
    · simp; omega
theorem split_c (s : List UInt8) (hl : s.length ≤ 281474976710656) (w : World) (he : Errs w) (ht : Tab10 w) : Fc Tryd.prog 15 [.string (strY s)] w fun v w' =>
    v = .tuple #[.string (strY (splitT s).1), dotV (splitT s).2.1.1 (splitT s).2.1.2, .bool (splitT s).2.2] ∧ St [] w w' [] := by
  refine fc_i TB_ok Tryd.func15 rfl (by kernel_rfl) ?_
  have hS := Sf.refl w
  have c1 := cutP_len 126 s
  have c2 := cutP_len 46 (cutP 126 s).2.1
  repeat ((conv => whnf); first | (apply q_i; focus (intro w1 hS; (conv => whnf); first | exact ⟨rfl, rfl⟩ | ((refine ld_f hS 0 rfl rfl ?_); (conv => whnf); exact ⟨rfl, rfl⟩) | ((refine ldA_f hS 0 rfl rfl ?_); (conv => whnf); exact ⟨rfl, rfl⟩) | ((refine fc_m (scut_c s 126 (by omega) _) ?_; rintro v w3 ⟨rfl, hS'⟩; replace hS := hS.call0 hS'); (conv => whnf); exact ⟨rfl, rfl⟩))) | (refine nw_f hS ?_; intro b w1 hS) | (refine as_i hS ?_) | (refine as_i (hS.subs (List.nil_sublist _) (by repeat (first | exact List.Sublist.refl _ | apply List.Sublist.cons_cons | apply List.Sublist.cons))) ?_) | (refine as_i (hS.subs (List.Sublist.refl _) (by repeat (first | exact List.Sublist.refl _ | apply List.Sublist.cons_cons | apply List.Sublist.cons))) ?_) | (refine bar_f hS ?_) | (refine ld_f hS 0 rfl rfl ?_) | (refine ldA_f hS 0 rfl rfl ?_) | (refine stN_f hS 0 rfl (Nat.le_of_ble_eq_true rfl) rfl rfl ?_; (conv => whnf); intro w1 hS) | (refine stM_f hS 0 rfl (Nat.le_of_ble_eq_true rfl) rfl ?_; (conv => whnf); intro w1 hS) | (refine fc_m (scut_c s 126 (by omega) _) ?_; rintro v w3 ⟨rfl, hS'⟩; replace hS := hS.call0 hS') | (refine drawf TB_ok rfl (by kernel_rfl) (by kernel_rfl) hS (List.Sublist.refl _) (List.Sublist.refl _) ?_; intro w1 hS) | (refine br_t (by assumption) ?_) | (refine br_f (by assumption) ?_))
  unfold splitT
  simp only
  generalize cutP 126 s = A at *
  repeat ((conv => whnf); first | (apply q_i; focus (intro w1 hS; (conv => whnf); first | exact ⟨rfl, rfl⟩ | ((refine ld_f hS 0 rfl rfl ?_); (conv => whnf); exact ⟨rfl, rfl⟩) | ((refine ldA_f hS 0 rfl rfl ?_); (conv => whnf); exact ⟨rfl, rfl⟩) | ((refine fc_m (scut_c A.2.1 46 (by omega) _) ?_; rintro v w3 ⟨rfl, hS'⟩; replace hS := hS.call0 hS'); (conv => whnf); exact ⟨rfl, rfl⟩))) | (refine nw_f hS ?_; intro b w1 hS) | (refine as_i hS ?_) | (refine as_i (hS.subs (List.nil_sublist _) (by repeat (first | exact List.Sublist.refl _ | apply List.Sublist.cons_cons | apply List.Sublist.cons))) ?_) | (refine as_i (hS.subs (List.Sublist.refl _) (by repeat (first | exact List.Sublist.refl _ | apply List.Sublist.cons_cons | apply List.Sublist.cons))) ?_) | (refine bar_f hS ?_) | (refine ld_f hS 0 rfl rfl ?_) | (refine ldA_f hS 0 rfl rfl ?_) | (refine stN_f hS 0 rfl (Nat.le_of_ble_eq_true rfl) rfl rfl ?_; (conv => whnf); intro w1 hS) | (refine stM_f hS 0 rfl (Nat.le_of_ble_eq_true rfl) rfl ?_; (conv => whnf); intro w1 hS) | (refine fc_m (scut_c A.2.1 46 (by omega) _) ?_; rintro v w3 ⟨rfl, hS'⟩; replace hS := hS.call0 hS') | (refine drawf TB_ok rfl (by kernel_rfl) (by kernel_rfl) hS (List.Sublist.refl _) (List.Sublist.refl _) ?_; intro w1 hS) | (refine br_t (by assumption) ?_) | (refine br_f (by assumption) ?_))
  generalize cutP 46 A.2.1 = B at *
  refine fc_m (number_c B.1 (by omega) 7 _ (he.below hS.nil) (ht.below hS.nil)) ?_
  rintro v w1 ⟨⟨n, rfl, hn, hu⟩, hS'⟩
  replace hS := hS.call0 hS'
  repeat ((conv => whnf); first | (apply q_i; focus (intro w1 hS; (conv => whnf); first | exact ⟨rfl, rfl⟩ | ((refine ld_f hS 0 rfl rfl ?_); (conv => whnf); exact ⟨rfl, rfl⟩) | ((refine ldA_f hS 0 rfl rfl ?_); (conv => whnf); exact ⟨rfl, rfl⟩))) | (refine nw_f hS ?_; intro b w1 hS) | (refine as_i hS ?_) | (refine as_i (hS.subs (List.nil_sublist _) (by repeat (first | exact List.Sublist.refl _ | apply List.Sublist.cons_cons | apply List.Sublist.cons))) ?_) | (refine as_i (hS.subs (List.Sublist.refl _) (by repeat (first | exact List.Sublist.refl _ | apply List.Sublist.cons_cons | apply List.Sublist.cons))) ?_) | (refine bar_f hS ?_) | (refine ld_f hS 0 rfl rfl ?_) | (refine ldA_f hS 0 rfl rfl ?_) | (refine stN_f hS 0 rfl (Nat.le_of_ble_eq_true rfl) rfl rfl ?_; (conv => whnf); intro w1 hS) | (refine stM_f hS 0 rfl (Nat.le_of_ble_eq_true rfl) rfl ?_; (conv => whnf); intro w1 hS) | (refine drawf TB_ok rfl (by kernel_rfl) (by kernel_rfl) hS (List.Sublist.refl _) (List.Sublist.refl _) ?_; intro w1 hS) | (refine br_t (by assumption) ?_) | (refine br_f (by assumption) ?_))
  refine fc_m (number_c B.2.1 (by omega) 65535 _ (he.below hS.nil) (ht.below hS.nil)) ?_
  rintro v w2 ⟨⟨k, rfl, hk, hv⟩, hS'⟩
  replace hS := hS.call0 hS'
  have l7 : ∀ u, numV 7 B.1 = some u → u ≤ 7 := fun u h => numV_le h
  have l5 : ∀ u, numV 65535 B.2.1 = some u → u ≤ 65535 := fun u h => numV_le h
  have hN := fun w => pname_c A.1 w
  have hR0 := fun w => right_c (IntKind.u8.wrap (n : Int)) (IntKind.u32.wrap (k : Int)) w
  generalize numV 7 B.1 = o1 at *
  generalize numV 65535 B.2.1 = o2 at *
  generalize nameB A.1 = nb at *
  cases nb
  case false =>
    repeat ((conv => whnf); first | (apply q_i; focus (intro w1 hS; (conv => whnf); first | exact ⟨rfl, rfl⟩ | ((refine ld_f hS 0 rfl rfl ?_); (conv => whnf); exact ⟨rfl, rfl⟩) | ((refine ldA_f hS 0 rfl rfl ?_); (conv => whnf); exact ⟨rfl, rfl⟩) | ((refine fc_m (hN _) ?_; rintro v w3 ⟨rfl, hS'⟩; replace hS := hS.call0 hS'); (conv => whnf); exact ⟨rfl, rfl⟩))) | (refine nw_f hS ?_; intro b w1 hS) | (refine as_i hS ?_) | (refine as_i (hS.subs (List.nil_sublist _) (by repeat (first | exact List.Sublist.refl _ | apply List.Sublist.cons_cons | apply List.Sublist.cons))) ?_) | (refine as_i (hS.subs (List.Sublist.refl _) (by repeat (first | exact List.Sublist.refl _ | apply List.Sublist.cons_cons | apply List.Sublist.cons))) ?_) | (refine bar_f hS ?_) | (refine ld_f hS 0 rfl rfl ?_) | (refine ldA_f hS 0 rfl rfl ?_) | (refine stN_f hS 0 rfl (Nat.le_of_ble_eq_true rfl) rfl rfl ?_; (conv => whnf); intro w1 hS) | (refine stM_f hS 0 rfl (Nat.le_of_ble_eq_true rfl) rfl ?_; (conv => whnf); intro w1 hS) | (refine fc_m (hN _) ?_; rintro v w3 ⟨rfl, hS'⟩; replace hS := hS.call0 hS') | (refine drawf TB_ok rfl (by kernel_rfl) (by kernel_rfl) hS (List.Sublist.refl _) (List.Sublist.refl _) ?_; intro w1 hS) | (refine br_t (by assumption) ?_) | (refine br_f (by assumption) ?_))
    refine ⟨?_, hS.nil⟩
    cases o1 <;> cases o2 <;> rfl
  cases o1
  case none =>
    repeat ((conv => whnf); first | (apply q_i; focus (intro w1 hS; (conv => whnf); first | exact ⟨rfl, rfl⟩ | ((refine ld_f hS 0 rfl rfl ?_); (conv => whnf); exact ⟨rfl, rfl⟩) | ((refine ldA_f hS 0 rfl rfl ?_); (conv => whnf); exact ⟨rfl, rfl⟩) | ((refine fc_m (hN _) ?_; rintro v w3 ⟨rfl, hS'⟩; replace hS := hS.call0 hS'); (conv => whnf); exact ⟨rfl, rfl⟩))) | (refine nw_f hS ?_; intro b w1 hS) | (refine as_i hS ?_) | (refine as_i (hS.subs (List.nil_sublist _) (by repeat (first | exact List.Sublist.refl _ | apply List.Sublist.cons_cons | apply List.Sublist.cons))) ?_) | (refine as_i (hS.subs (List.Sublist.refl _) (by repeat (first | exact List.Sublist.refl _ | apply List.Sublist.cons_cons | apply List.Sublist.cons))) ?_) | (refine bar_f hS ?_) | (refine ld_f hS 0 rfl rfl ?_) | (refine ldA_f hS 0 rfl rfl ?_) | (refine stN_f hS 0 rfl (Nat.le_of_ble_eq_true rfl) rfl rfl ?_; (conv => whnf); intro w1 hS) | (refine stM_f hS 0 rfl (Nat.le_of_ble_eq_true rfl) rfl ?_; (conv => whnf); intro w1 hS) | (refine fc_m (hN _) ?_; rintro v w3 ⟨rfl, hS'⟩; replace hS := hS.call0 hS') | (refine drawf TB_ok rfl (by kernel_rfl) (by kernel_rfl) hS (List.Sublist.refl _) (List.Sublist.refl _) ?_; intro w1 hS) | (refine br_t (by assumption) ?_) | (refine br_f (by assumption) ?_))
    exact ⟨rfl, hS.nil⟩
  cases o2
  case none =>
    repeat ((conv => whnf); first | (apply q_i; focus (intro w1 hS; (conv => whnf); first | exact ⟨rfl, rfl⟩ | ((refine ld_f hS 0 rfl rfl ?_); (conv => whnf); exact ⟨rfl, rfl⟩) | ((refine ldA_f hS 0 rfl rfl ?_); (conv => whnf); exact ⟨rfl, rfl⟩) | ((refine fc_m (hN _) ?_; rintro v w3 ⟨rfl, hS'⟩; replace hS := hS.call0 hS'); (conv => whnf); exact ⟨rfl, rfl⟩))) | (refine nw_f hS ?_; intro b w1 hS) | (refine as_i hS ?_) | (refine as_i (hS.subs (List.nil_sublist _) (by repeat (first | exact List.Sublist.refl _ | apply List.Sublist.cons_cons | apply List.Sublist.cons))) ?_) | (refine as_i (hS.subs (List.Sublist.refl _) (by repeat (first | exact List.Sublist.refl _ | apply List.Sublist.cons_cons | apply List.Sublist.cons))) ?_) | (refine bar_f hS ?_) | (refine ld_f hS 0 rfl rfl ?_) | (refine ldA_f hS 0 rfl rfl ?_) | (refine stN_f hS 0 rfl (Nat.le_of_ble_eq_true rfl) rfl rfl ?_; (conv => whnf); intro w1 hS) | (refine stM_f hS 0 rfl (Nat.le_of_ble_eq_true rfl) rfl ?_; (conv => whnf); intro w1 hS) | (refine fc_m (hN _) ?_; rintro v w3 ⟨rfl, hS'⟩; replace hS := hS.call0 hS') | (refine drawf TB_ok rfl (by kernel_rfl) (by kernel_rfl) hS (List.Sublist.refl _) (List.Sublist.refl _) ?_; intro w1 hS) | (refine br_t (by assumption) ?_) | (refine br_f (by assumption) ?_))
    exact ⟨rfl, hS.nil⟩
  rename_i r m
  have q1 := hu r rfl
  have q2 := hv m rfl
  have q3 := l7 r rfl
  have q4 := l5 m rfl
  subst q1 q2
  have hw1 : IntKind.u8.wrap (n : Int) = (n : Int) := wrap_u8 (by omega) (by omega)
  have hw2 : IntKind.u32.wrap (k : Int) = (k : Int) := wrap_u32 (by omega) (by omega)
  by_cases h1 : 1 ≤ k
  · have hb : rightB (IntKind.u8.wrap (n : Int)) (IntKind.u32.wrap (k : Int)) = true := by rw [hw1, hw2]; unfold rightB; simp; omega
    rw [hb] at hR0
    repeat ((conv => whnf); first | (apply q_i; focus (intro w1 hS; (conv => whnf); first | exact ⟨rfl, rfl⟩ | ((refine ld_f hS 0 rfl rfl ?_); (conv => whnf); exact ⟨rfl, rfl⟩) | ((refine ldA_f hS 0 rfl rfl ?_); (conv => whnf); exact ⟨rfl, rfl⟩) | ((refine fc_m (hN _) ?_; rintro v w3 ⟨rfl, hS'⟩; replace hS := hS.call0 hS'); (conv => whnf); exact ⟨rfl, rfl⟩) | ((refine fc_m (hR0 _) ?_; rintro v w3 ⟨rfl, hS'⟩; replace hS := hS.call0 hS'); (conv => whnf); exact ⟨rfl, rfl⟩))) | (refine nw_f hS ?_; intro b w1 hS) | (refine as_i hS ?_) | (refine as_i (hS.subs (List.nil_sublist _) (by repeat (first | exact List.Sublist.refl _ | apply List.Sublist.cons_cons | apply List.Sublist.cons))) ?_) | (refine as_i (hS.subs (List.Sublist.refl _) (by repeat (first | exact List.Sublist.refl _ | apply List.Sublist.cons_cons | apply List.Sublist.cons))) ?_) | (refine bar_f hS ?_) | (refine ld_f hS 0 rfl rfl ?_) | (refine ldA_f hS 0 rfl rfl ?_) | (refine stN_f hS 0 rfl (Nat.le_of_ble_eq_true rfl) rfl rfl ?_; (conv => whnf); intro w1 hS) | (refine stM_f hS 0 rfl (Nat.le_of_ble_eq_true rfl) rfl ?_; (conv => whnf); intro w1 hS) | (refine fc_m (hN _) ?_; rintro v w3 ⟨rfl, hS'⟩; replace hS := hS.call0 hS') | (refine fc_m (hR0 _) ?_; rintro v w3 ⟨rfl, hS'⟩; replace hS := hS.call0 hS') | (refine br_t (by assumption) ?_) | (refine br_f (by assumption) ?_))
    refine drawf (Ls := [_]) TB_ok rfl (by kernel_rfl) (by kernel_rfl) hS (List.nil_sublist _) (List.Sublist.refl _) ?_; intro w1 hS
    repeat ((conv => whnf); first | (apply q_i; focus (intro w1 hS; (conv => whnf); first | exact ⟨rfl, rfl⟩ | ((refine ld_f hS 0 rfl rfl ?_); (conv => whnf); exact ⟨rfl, rfl⟩) | ((refine ldA_f hS 0 rfl rfl ?_); (conv => whnf); exact ⟨rfl, rfl⟩))) | (refine nw_f hS ?_; intro b w1 hS) | (refine as_i hS ?_) | (refine as_i (hS.subs (List.nil_sublist _) (by repeat (first | exact List.Sublist.refl _ | apply List.Sublist.cons_cons | apply List.Sublist.cons))) ?_) | (refine as_i (hS.subs (List.Sublist.refl _) (by repeat (first | exact List.Sublist.refl _ | apply List.Sublist.cons_cons | apply List.Sublist.cons))) ?_) | (refine bar_f hS ?_) | (refine ld_f hS 0 rfl rfl ?_) | (refine ldA_f hS 0 rfl rfl ?_) | (refine stN_f hS 0 rfl (Nat.le_of_ble_eq_true rfl) rfl rfl ?_; (conv => whnf); intro w1 hS) | (refine stM_f hS 0 rfl (Nat.le_of_ble_eq_true rfl) rfl ?_; (conv => whnf); intro w1 hS) | (refine drawf TB_ok rfl (by kernel_rfl) (by kernel_rfl) hS (List.Sublist.refl _) (List.Sublist.refl _) ?_; intro w1 hS) | (refine br_t (by assumption) ?_) | (refine br_f (by assumption) ?_))
    refine ⟨?_, hS.nil⟩
    have e : (if (true && decide (1 ≤ k)) = true then (A.1, ((n : Int), (k : Int)), true) else (s, ((0 : Int), (0 : Int)), false)) = (A.1, ((n : Int), (k : Int)), true) := by simp [h1]
    show Value.tuple #[.string (strY A.1), dotV (IntKind.u8.wrap (n : Int)) (IntKind.u32.wrap (k : Int)), .bool true] = Value.tuple #[.string (strY (if (true && decide (1 ≤ k)) = true then (A.1, ((n : Int), (k : Int)), true) else (s, ((0 : Int), (0 : Int)), false)).1), dotV (if (true && decide (1 ≤ k)) = true then (A.1, ((n : Int), (k : Int)), true) else (s, ((0 : Int), (0 : Int)), false)).2.1.1 (if (true && decide (1 ≤ k)) = true then (A.1, ((n : Int), (k : Int)), true) else (s, ((0 : Int), (0 : Int)), false)).2.1.2, .bool (if (true && decide (1 ≤ k)) = true then (A.1, ((n : Int), (k : Int)), true) else (s, ((0 : Int), (0 : Int)), false)).2.2]
    rw [e, hw1, hw2]
  · have hb : rightB (IntKind.u8.wrap (n : Int)) (IntKind.u32.wrap (k : Int)) = false := by rw [hw1, hw2]; unfold rightB; simp; omega
    rw [hb] at hR0
    repeat ((conv => whnf); first | (apply q_i; focus (intro w1 hS; (conv => whnf); first | exact ⟨rfl, rfl⟩ | ((refine ld_f hS 0 rfl rfl ?_); (conv => whnf); exact ⟨rfl, rfl⟩) | ((refine ldA_f hS 0 rfl rfl ?_); (conv => whnf); exact ⟨rfl, rfl⟩) | ((refine fc_m (hN _) ?_; rintro v w3 ⟨rfl, hS'⟩; replace hS := hS.call0 hS'); (conv => whnf); exact ⟨rfl, rfl⟩) | ((refine fc_m (hR0 _) ?_; rintro v w3 ⟨rfl, hS'⟩; replace hS := hS.call0 hS'); (conv => whnf); exact ⟨rfl, rfl⟩))) | (refine nw_f hS ?_; intro b w1 hS) | (refine as_i hS ?_) | (refine as_i (hS.subs (List.nil_sublist _) (by repeat (first | exact List.Sublist.refl _ | apply List.Sublist.cons_cons | apply List.Sublist.cons))) ?_) | (refine as_i (hS.subs (List.Sublist.refl _) (by repeat (first | exact List.Sublist.refl _ | apply List.Sublist.cons_cons | apply List.Sublist.cons))) ?_) | (refine bar_f hS ?_) | (refine ld_f hS 0 rfl rfl ?_) | (refine ldA_f hS 0 rfl rfl ?_) | (refine stN_f hS 0 rfl (Nat.le_of_ble_eq_true rfl) rfl rfl ?_; (conv => whnf); intro w1 hS) | (refine stM_f hS 0 rfl (Nat.le_of_ble_eq_true rfl) rfl ?_; (conv => whnf); intro w1 hS) | (refine fc_m (hN _) ?_; rintro v w3 ⟨rfl, hS'⟩; replace hS := hS.call0 hS') | (refine fc_m (hR0 _) ?_; rintro v w3 ⟨rfl, hS'⟩; replace hS := hS.call0 hS') | (refine drawf TB_ok rfl (by kernel_rfl) (by kernel_rfl) hS (List.Sublist.refl _) (List.Sublist.refl _) ?_; intro w1 hS) | (refine br_t (by assumption) ?_) | (refine br_f (by assumption) ?_))
    refine ⟨?_, hS.nil⟩
    have e : (if (true && decide (1 ≤ k)) = true then (A.1, ((n : Int), (k : Int)), true) else (s, ((0 : Int), (0 : Int)), false)) = (s, ((0 : Int), (0 : Int)), false) := by simp [h1]
    show Value.tuple #[.string (strY s), dotV 0 0, .bool false] = Value.tuple #[.string (strY (if (true && decide (1 ≤ k)) = true then (A.1, ((n : Int), (k : Int)), true) else (s, ((0 : Int), (0 : Int)), false)).1), dotV (if (true && decide (1 ≤ k)) = true then (A.1, ((n : Int), (k : Int)), true) else (s, ((0 : Int), (0 : Int)), false)).2.1.1 (if (true && decide (1 ≤ k)) = true then (A.1, ((n : Int), (k : Int)), true) else (s, ((0 : Int), (0 : Int)), false)).2.1.2, .bool (if (true && decide (1 ≤ k)) = true then (A.1, ((n : Int), (k : Int)), true) else (s, ((0 : Int), (0 : Int)), false)).2.2]
    rw [e]
end Go.RV
