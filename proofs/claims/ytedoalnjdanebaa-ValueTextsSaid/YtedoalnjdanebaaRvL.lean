/- More answers to the executor's questions. Conditions: none. -/
import Derived.Test.YtedoalnjdanebaaRvK
set_option linter.unusedVariables false
set_option linter.unusedSimpArgs false
namespace Go.RV
open Go Go.RowKit

section
variable {P : Program} {M : List Nat} {w0 w w' : World} {L L' Ls : LM}

/-- a call that changes nothing; what it made follows what was there -/
theorem St.call' (h : St M w0 w L) (h' : St [] w w' L') : St M w0 w' (L ++ L') := (h.call h').perm List.perm_append_comm
theorem St.call0 (h : St M w0 w L) (h' : St [] w w' []) : St M w0 w' L := by simpa using h.call h'
/-- all blocks that L tells are as it tells -/
def Holds (w : World) (L : LM) : Prop := ∀ x ∈ L, w.heap[x.1]? = some x.2
theorem St.holds (h : St M w0 w L) (hs : ∀ x ∈ Ls, x ∈ L) : Holds w Ls := fun x hx => h.own x.1 x.2 (hs x hx)
theorem Holds.cell {b off : Nat} {cs : Array Value} {e : TypeId} {fz : Nat × Nat} {v : Value} (h : Holds w L) (k : Nat) (hk : L[k]? = some (b, .cells cs e fz)) (hv : cs.toList[off]? = some v) : w.cell? ⟨b, off, none⟩ = some v := by
  have h1 := h _ (List.mem_of_getElem? hk)
  simp only [World.cell?, h1]
  simpa using hv
theorem Holds.sub (h : Holds w L) (hs : Ls.Sublist L) : Holds w Ls := fun x hx => h x (hs.subset hx)
theorem Holds.below (h : Holds w L) (hS : St [] w w' L') : Holds w' L := fun x hx => by
  have h1 := h x hx
  have hlt : x.1 < w.heap.size := by
    rcases Nat.lt_or_ge x.1 w.heap.size with h2 | h2
    · exact h2
    · simp [Array.getElem?_eq_none h2] at h1
  rw [hS.old x.1 hlt (by simp)]
  exact h1
/-- a load of what lay there ahead of the call -/
theorem ld_h {b off : Nat} {cs : Array Value} {e : TypeId} {fz : Nat × Nat} {v : Value} {K : Value → Prop} (hS : St [] w0 w L) (hH : Holds w0 L') (k : Nat) (hk : L'[k]? = some (b, .cells cs e fz)) (hv : cs.toList[off]? = some v) (h : K v) : Ld w ⟨b, off, none⟩ K :=
  ld_i v ((hH.below hS).cell k hk hv) h
theorem ldA_h {b n : Nat} {cs : Array Value} {e : TypeId} {fz : Nat × Nat} {K : List Value → Prop} (hS : St [] w0 w L) (hH : Holds w0 L') (k : Nat) (hk : L'[k]? = some (b, .cells cs e fz)) (hn : n = cs.toList.length) (h : K cs.toList) : LdN w ⟨b, 0, none⟩ n K := by
  refine ldN_i _ hn.symm ?_ h
  intro i hi
  rw [add_none]
  have hlt : i < cs.toList.length := by omega
  rw [List.getElem?_eq_getElem hlt]
  exact (hH.below hS).cell k hk (by rw [Nat.zero_add]; exact List.getElem?_eq_getElem hlt)

theorem setsL_eq : ∀ (vs cells : List Value) (off : Nat), off + vs.length ≤ cells.length → setsL cells off vs = cells.take off ++ vs ++ cells.drop (off + vs.length)
  | [], cells, off, h => by simp [setsL]
  | v :: vs, cells, off, h => by
    simp only [List.length_cons] at h
    rw [setsL, setsL_eq vs (cells.set off v) (off + 1) (by simp; omega)]
    have h1 : (cells.set off v).take (off + 1) = cells.take off ++ [v] := by
      rw [List.take_succ_eq_append_getElem (by simp; omega), List.take_set_of_le (by omega)]
      simp
    have h2 : (cells.set off v).drop (off + 1 + vs.length) = cells.drop (off + (vs.length + 1)) := by
      rw [List.drop_set_of_lt (by omega)]
      congr 1
      omega
    rw [h1, h2]
    simp
def allOne : List Value → Bool
  | [] => true
  | v :: vs => match one v with
    | true => allOne vs
    | false => false
theorem allOne_ok : ∀ {vs : List Value}, allOne vs = true → ∀ v ∈ vs, one v = true
  | [], _, v, hv => by cases hv
  | u :: vs, h, v, hv => by
    unfold allOne at h
    cases h1 : one u with
    | true =>
      rw [h1] at h
      rcases List.mem_cons.1 hv with rfl | hv
      · exact h1
      · exact allOne_ok h v hv
    | false => rw [h1] at h; cases h
/-- a store of several cells -/
theorem stM_s {b off : Nat} {cs : Array Value} {e : TypeId} {vs : List Value} {K : World → Prop} (hS : St M w0 w L) (k : Nat) (hk : L[k]? = some (b, .cells cs e (0, 0))) (hlt : off + vs.length ≤ cs.toList.length) (ho : allOne vs = true)
    (h : setsK cs.toList off vs fun l => setLK L k (b, .cells l.toArray e (0, 0)) fun L' => ∀ w', St M w0 w' L' → K w') : StN P w ⟨b, off, none⟩ vs K := by
  have h1 := setLK_ok (setsK_ok h)
  have hblk := hS.block k hk
  have hlt' : off + vs.length ≤ cs.size := by simpa using hlt
  have hr := run_storeCells_at P b off e vs 0 cs w hblk (by simpa using hlt') (fun u hu => by rw [← one_eq]; exact allOne_ok ho u hu)
  have hS2 := hS.put (w' := w.setRow b (cs.toList.take off ++ vs ++ cs.toList.drop (off + vs.length)).toArray) k hk (.cells (setsL cs.toList off vs).toArray e (0, 0))
    ⟨setRow_size _ _ _, rfl, rfl, rfl⟩ (by rw [setsL_eq vs cs.toList off (by simpa using hlt)]; exact setRow_heap w b cs _ e _ hblk) (fun j hj => setRow_other w b j _ hj)
  simp only [Nat.add_zero] at hr
  exact ⟨.of_run hr (h1 _ hS2)⟩

theorem draw' {T : Tab} (hT : TabOk P T) {r : Option Nat} {id : Nat} {ops : Array Oper} {Q : Post} {fr : Fr} {ds : List Deferred} (hm : P.follows .mixedOrders = true) (hn : noDS ops = true) (hA : apartD ops = true) (hS : St M w0 w L) (hs : Ls.Sublist L)
    (h : ∀ w', St M w0 w' L → XD T P (fun w'' => St M w0 w'' Ls) ops.toList (fun fr w => Q .normal fr ds w) ops.toList.length (List.replicate ops.toList.length false) fr w') : Wp P r (.region id ops true) Q fr ds w := by
  refine .of fun n => ?_
  have hS' : St M w0 { w with drawn := w.drawn + 1 } L := hS.drew _
  have h1 := XD_ok (ds := ds) (Q := fun e a w => liftQ Q e a w ∧ ∀ c, e ≠ .panic c) hT r n (by simpa using hn) (by simpa using hA) (by rintro c a w ⟨_, hp⟩; exact hp c rfl)
    (K := fun fr w => Q .normal fr ds w) (fun fr w hk => ⟨⟨fr, ds, rfl, hk⟩, by intro c e; cases e⟩) ops.toList.length (fun w'' => St M w0 w'' Ls) (List.replicate ops.toList.length false) fr { w with drawn := w.drawn + 1 } (by simp) (by intro m o hm; simp [Array.getD] at hm) (.inl (hS'.sub hs)) (h _ hS')
  have h2 := AnyS.any _ _ _ _ _ h1
  have h3 := wpIn_region_any (id := id) (ops := ops) hm (by simpa using h2)
  exact wpIn_mono h3 fun e a w hq => hq.1
end

theorem as_i {A B : Prop} (a : A) (b : B) : AndS A B := ⟨a, b⟩
theorem fc_m {P : Program} {f : FuncId} {args : List Value} {w : World} {R K : Value → World → Prop} (h : Fc P f args w R) (hk : ∀ v w', R v w' → K v w') : Fc P f args w K := h.mono hk
theorem norm_s {M : List Nat} {w0 w : World} {L : LM} {G : Prop} (hS : St M w0 w L) (h : normLK L fun L' => St M w0 w L' → G) : G := normLK_ok (K := fun L' => St M w0 w L' → G) h hS

/- numbers -/
theorem wrap_i64 {x : Int} (h0 : -9223372036854775808 ≤ x) (h1 : x ≤ 9223372036854775807) : IntKind.i64.wrap x = x := by
  unfold IntKind.wrap IntKind.bits IntKind.signed
  simp only [Bool.true_and, ge_iff_le, decide_eq_true_eq]
  split <;> omega
theorem wrap_u32 {x : Int} (h0 : 0 ≤ x) (h1 : x < 4294967296) : IntKind.u32.wrap x = x := by
  unfold IntKind.wrap IntKind.bits IntKind.signed
  simp only [Bool.false_and, Bool.false_eq_true, if_false]
  omega
theorem wrap_u8 {x : Int} (h0 : 0 ≤ x) (h1 : x < 256) : IntKind.u8.wrap x = x := by
  unfold IntKind.wrap IntKind.bits IntKind.signed
  simp only [Bool.false_and, Bool.false_eq_true, if_false]
  omega
theorem wrap_u32_mod (x : Int) : IntKind.u32.wrap x = x % 4294967296 := by
  unfold IntKind.wrap IntKind.bits IntKind.signed
  simp only [Bool.false_and, Bool.false_eq_true, if_false]
  omega
theorem wrap_u8_mod (x : Int) : IntKind.u8.wrap x = x % 256 := by
  unfold IntKind.wrap IntKind.bits IntKind.signed
  simp only [Bool.false_and, Bool.false_eq_true, if_false]
  omega
theorem wrap_u16_mod (x : Int) : IntKind.u16.wrap x = x % 65536 := by
  unfold IntKind.wrap IntKind.bits IntKind.signed
  simp only [Bool.false_and, Bool.false_eq_true, if_false]
  omega
theorem wi {i n : Nat} (h : i < n) (hn : n ≤ 4611686018427387904) : IntKind.i64.wrap ((i : Int) + 1) = ((i + 1 : Nat) : Int) := by
  rw [wrap_i64 (by omega) (by omega)]
  omega

/- an element of a list that is read -/
section
variable {α : Type} {enc : α → List Value} {sz : Nat} {w : World} {xs : List α} {b off : Nat}
theorem ldN_el {n : Nat} (henc : ∀ x, (enc x).length = sz) (hc : ∀ j v o, (flat enc xs)[j]? = some v → o = off + j → w.cell? ⟨b, o, none⟩ = some v) {i o : Nat} (hi : i < xs.length) (ho : o = off + i * sz) (hn : n = sz) {K : List Value → Prop} (k : K (enc xs[i])) : LdN w ⟨b, o, none⟩ n K := by
  subst hn
  refine ldN_i _ (henc _) ?_ k
  intro j hj
  rw [add_none]
  have h1 := flat_get henc xs i hi j hj
  have hlt : j < (enc xs[i]).length := by rw [henc]; exact hj
  rw [List.getElem?_eq_getElem hlt] at h1 ⊢
  exact hc _ _ _ h1 (by omega)
theorem ld_el (henc : ∀ x, (enc x).length = sz) (hc : ∀ j v o, (flat enc xs)[j]? = some v → o = off + j → w.cell? ⟨b, o, none⟩ = some v) {i o k : Nat} (hi : i < xs.length) (hk : k < sz) (ho : o = off + i * sz + k) {v : Value} (hv : (enc xs[i])[k]? = some v) {K : Value → Prop} (h : K v) : Ld w ⟨b, o, none⟩ K := by
  have h1 := flat_get henc xs i hi k hk
  rw [hv] at h1
  exact ld_i v (hc _ _ _ h1 (by omega)) h
theorem flat_ne (henc : ∀ x, (enc x).length = sz) (hz : 0 < sz) {i : Nat} (hi : i < xs.length) : flat enc xs ≠ [] := by
  intro h
  have h1 := flat_length henc xs
  rw [h] at h1
  simp only [List.length_nil] at h1
  have : 0 < xs.length * sz := Nat.mul_pos (by omega) hz
  omega
end
theorem ix_i {A : Option Addr} {b off : Nat} {K : Nat → Nat → Prop} (h : A = some ⟨b, off, none⟩) (k : K b off) : Ix A K := ⟨⟨b, off, h, k⟩⟩

end Go.RV
