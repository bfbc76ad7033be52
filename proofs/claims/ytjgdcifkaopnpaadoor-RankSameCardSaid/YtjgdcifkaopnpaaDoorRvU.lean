/- Arrays of eight numbers, by value and in memory. Conditions: none. -/
import Derived.Test.YtjgdcifkaopnpaaDoorRvR
import Derived.ChangeKeysEq
set_option linter.unusedVariables false
set_option linter.unusedSimpArgs false
namespace Go.RV
open Go Go.RowKit

def vecF (f : Nat → Int) : List Value := [.int .u32 (f 0), .int .u32 (f 1), .int .u32 (f 2), .int .u32 (f 3), .int .u32 (f 4), .int .u32 (f 5), .int .u32 (f 6), .int .u32 (f 7)]
def upd (f : Nat → Int) (i : Nat) (x : Int) : Nat → Int := fun j => if j = i then x else f j
theorem lt8 {i : Nat} (h : i < 8) : i = 0 ∨ i = 1 ∨ i = 2 ∨ i = 3 ∨ i = 4 ∨ i = 5 ∨ i = 6 ∨ i = 7 := by omega
theorem vecF_congr {f g : Nat → Int} (h : ∀ j, j < 8 → f j = g j) : vecF f = vecF g := by
  unfold vecF
  rw [h 0 (by decide), h 1 (by decide), h 2 (by decide), h 3 (by decide), h 4 (by decide), h 5 (by decide), h 6 (by decide), h 7 (by decide)]
theorem vget {f : Nat → Int} {i o : Nat} (h : i < 8) (ho : o = i) : (vecF f)[o]? = some (.int .u32 (f i)) := by
  subst ho
  rcases lt8 h with rfl | rfl | rfl | rfl | rfl | rfl | rfl | rfl <;> rfl
theorem vset {f : Nat → Int} {i : Nat} {x : Int} (h : i < 8) : (vecF f).set i (.int .u32 x) = vecF (upd f i x) := by
  rcases lt8 h with rfl | rfl | rfl | rfl | rfl | rfl | rfl | rfl <;> rfl
theorem updJ {h f : Nat → Int} {i : Nat} {x : Int} (hx : x = h i) : upd (fun j => if j < i then h j else f j) i x = fun j => if j < i + 1 then h j else f j := by
  funext j
  unfold upd
  by_cases e : j = i
  · subst e; simp [hx]
  · by_cases h2 : j < i
    · have h3 : j < i + 1 := by omega
      simp [e, h2, h3]
    · have h3 : ¬ j < i + 1 := by omega
      simp [e, h2, h3]
def veq (f g : Nat → Int) : Bool := (List.range 8).all fun j => f j == g j
theorem veq_iff {f g : Nat → Int} : veq f g = true ↔ ∀ j, j < 8 → f j = g j := by
  unfold veq
  simp
section
variable {P : Program} {M : List Nat} {w0 w : World} {F L : LM}
theorem stv_f {b off : Nat} {f : Nat → Int} {e : TypeId} {i : Nat} {x : Int} {K : World → Prop} (hS : Sf M w0 w F L) (k : Nat) (hk : L[k]? = some (b, .cells (vecF f).toArray e (0, 0))) (hi : i < 8) (ho : off = i)
    (h : setLK L k (b, .cells (vecF (upd f i x)).toArray e (0, 0)) fun L' => ∀ w', Sf M w0 w' F L' → K w') : StN P w ⟨b, off, none⟩ [.int .u32 x] K := by
  subst ho
  refine stN_f hS k hk (lo := 0) (hi := 0) (by simpa [vecF] using hi) (by simp) rfl (setK_i ?_)
  rw [show (vecF f).toArray.toList.set off (Value.int .u32 x) = vecF (upd f off x) from vset hi]
  exact h
theorem ldv_f {b off : Nat} {f : Nat → Int} {e : TypeId} {fz : Nat × Nat} {i : Nat} {K : Value → Prop} (hS : Sf M w0 w F L) (k : Nat) (hk : L[k]? = some (b, .cells (vecF f).toArray e fz)) (hi : i < 8) (ho : off = i) (h : K (.int .u32 (f i))) : Ld w ⟨b, off, none⟩ K :=
  ld_f hS k hk (show (vecF f).toArray.toList[off]? = some (.int .u32 (f i)) from vget hi ho) h
theorem eqI_u32 {e : TypeId} (he : P.underlying e = some (.int .u32)) (hc : P.cellsOf e = 1) (f g : Nat → Int) (w : World) : ∀ (is : List Nat), (∀ i ∈ is, i < 8) → (Op.eqItems 9999 e (P.cellsOf e) (vecF f).toArray (vecF g).toArray is).run P w = .ok (is.all fun j => f j == g j) w
  | [], _ => by simp [Op.eqItems]
  | i :: is, h => by
    have hi : i < 8 := h i (by simp)
    have ih := eqI_u32 he hc f g w is (fun j hj => h j (by simp [hj]))
    have h1 := EqF.int (P := P) (t := e) (k := .u32) (a := f i) (b := g i) he 9998 w
    have pa : (part e (vecF f).toArray (i * P.cellsOf e)).run P w = .ok (.int .u32 (f i)) w := part_plain h1.2 (by rw [hc, Nat.mul_one]; simpa using vget (f := f) hi rfl)
    have pb : (part e (vecF g).toArray (i * P.cellsOf e)).run P w = .ok (.int .u32 (g i)) w := part_plain h1.2 (by rw [hc, Nat.mul_one]; simpa using vget (f := g) hi rfl)
    simp only [Op.eqItems, Sem.run_bind, pa, pb, h1.1, Result.andThen_ok]
    cases hq : f i == g i
    · simp [hq]
    · simpa [hq] using ih
theorem eqV {t e : TypeId} {i : TypeInfo} (hu : P.underlying t = some (.array 8 e)) (hi : P.info? e = some i) (he : P.underlying e = some (.int .u32)) (hc : P.cellsOf e = 1) (f g : Nat → Int) (w : World) : (Op.equalIn 10000 t (.agg (vecF f).toArray) (.agg (vecF g).toArray)).run P w = .ok (veq f g) w := by
  rw [run_equalIn_array w 9999 _ _ hu hi]
  exact eqI_u32 he hc f g w (List.range 8) (by simp)
theorem eqV_i {t e : TypeId} {i : TypeInfo} {f g : Nat → Int} {x y : Operand} {K : Value → World → Prop} (hm : P.eqGuardType P.depth t = false) (hu : P.underlying t = some (.array 8 e)) (hi : P.info? e = some i) (he : P.underlying e = some (.int .u32)) (hc : P.cellsOf e = 1) (k : K (.bool (veq f g)) w) :
    SemN P (do eqGuard .eql t x y (.agg (vecF f).toArray) (.agg (vecF g).toArray); binOp .eql t (.agg (vecF f).toArray) (.agg (vecF g).toArray)) w K := by
  refine ⟨SemW.of_run (a := .bool (veq f g)) (w' := w) ?_ k⟩
  rw [Sem.run_bind, run_eqGuard_agg w .eql t x y _ _ hm, Result.andThen_ok, run_eql_struct, eqV hu hi he hc, Result.andThen_ok]
theorem neV_i {t e : TypeId} {i : TypeInfo} {f g : Nat → Int} {x y : Operand} {K : Value → World → Prop} (hm : P.eqGuardType P.depth t = false) (hu : P.underlying t = some (.array 8 e)) (hi : P.info? e = some i) (he : P.underlying e = some (.int .u32)) (hc : P.cellsOf e = 1) (k : K (.bool (!veq f g)) w) :
    SemN P (do eqGuard .neq t x y (.agg (vecF f).toArray) (.agg (vecF g).toArray); binOp .neq t (.agg (vecF f).toArray) (.agg (vecF g).toArray)) w K := by
  refine ⟨SemW.of_run (a := .bool (!veq f g)) (w' := w) ?_ k⟩
  rw [Sem.run_bind, run_eqGuard_agg w .neq t x y _ _ hm, Result.andThen_ok, run_neq_struct, eqV hu hi he hc, Result.andThen_ok]
/-- a region whose order is open, to one end: K' is shown in every order, and is gone on from once -/
theorem drawk {T : Tab} (hT : TabOk P T) {r : Option Nat} {id : Nat} {ops : Array Oper} {Q : Post} {fr : Fr} {ds : List Deferred} {Fs Ls : LM} (hm : P.follows .mixedOrders = true) (hn : noDS ops = true) (hA : apartD ops = true) (hS : Sf M w0 w F L) (hf : Fs.Sublist F) (hs : Ls.Sublist L) (K' : Fr → World → Prop)
    (h : ∀ w', Sf M w0 w' F L → XD T P (fun w'' => Sf M w0 w'' Fs Ls) ops.toList K' ops.toList.length (List.replicate ops.toList.length false) fr w') (hk : ∀ fr w, K' fr w → Q .normal fr ds w) : Wp P r (.region id ops true) Q fr ds w := by
  refine .of fun n => ?_
  have hS' : Sf M w0 { w with drawn := w.drawn + 1 } F L := hS.drew _
  have h1 := XD_ok (ds := ds) (Q := fun e a w => liftQ Q e a w ∧ ∀ c, e ≠ .panic c) hT r n (by simpa using hn) (by simpa using hA) (by rintro c a w ⟨_, hp⟩; exact hp c rfl)
    (K := K') (fun fr w hk' => ⟨⟨fr, ds, rfl, hk fr w hk'⟩, by intro c e; cases e⟩) ops.toList.length (fun w'' => Sf M w0 w'' Fs Ls) (List.replicate ops.toList.length false) fr { w with drawn := w.drawn + 1 } (by simp) (by intro m o hm; simp [Array.getD] at hm) (.inl (hS'.subs hf hs)) (h _ hS')
  have h2 := AnyS.any _ _ _ _ _ h1
  have h3 := wpIn_region_any (id := id) (ops := ops) hm (by simpa using h2)
  exact wpIn_mono h3 fun e a w hq => hq.1
theorem drawk3 {T : Tab} (hT : TabOk P T) {r : Option Nat} {id : Nat} {ops : Array Oper} {Q : Post} {fr : Fr} {ds : List Deferred} {Fs Ls : LM} (hm : P.follows .mixedOrders = true) (hn : noDS ops = true) (hA : apartD ops = true) (hS : Sf M w0 w F L) (hf : Fs.Sublist F) (hs : Ls.Sublist L) {f : Nat → Nat → Nat → Fr} {C : Nat → Nat → Nat → World → Prop}
    (h : ∀ w', Sf M w0 w' F L → XD T P (fun w'' => Sf M w0 w'' Fs Ls) ops.toList (fun fr w => ∃ a b c, fr = f a b c ∧ C a b c w) ops.toList.length (List.replicate ops.toList.length false) fr w') (hk : ∀ a b c w, C a b c w → Q .normal (f a b c) ds w) : Wp P r (.region id ops true) Q fr ds w :=
  drawk hT hm hn hA hS hf hs _ h (by rintro fr w ⟨a, b, c, rfl, hc⟩; exact hk a b c w hc)
theorem drawk0 {T : Tab} (hT : TabOk P T) {r : Option Nat} {id : Nat} {ops : Array Oper} {Q : Post} {fr : Fr} {ds : List Deferred} {Fs Ls : LM} (hm : P.follows .mixedOrders = true) (hn : noDS ops = true) (hA : apartD ops = true) (hS : Sf M w0 w F L) (hf : Fs.Sublist F) (hs : Ls.Sublist L) {f : Fr} {C : World → Prop}
    (h : ∀ w', Sf M w0 w' F L → XD T P (fun w'' => Sf M w0 w'' Fs Ls) ops.toList (fun fr w => fr = f ∧ C w) ops.toList.length (List.replicate ops.toList.length false) fr w') (hk : ∀ w, C w → Q .normal f ds w) : Wp P r (.region id ops true) Q fr ds w :=
  drawk hT hm hn hA hS hf hs _ h (by rintro fr w ⟨rfl, hc⟩; exact hk w hc)
/-- a frame of which n temporaries from lo on are any -/
def ovrF : Nat → Nat → (Nat → Value) → Fr → Fr
  | 0, 0, _, xs => xs
  | 0, n+1, g, _ :: xs => g n :: ovrF 0 n g xs
  | 0, _+1, _, [] => []
  | lo+1, n, g, x :: xs => x :: ovrF lo n g xs
  | _+1, _, _, [] => []
theorem ovr_leaf {lo n : Nat} {fr fr' : Fr} (h : ovrF lo n (fun j => fr'.getD (lo + (n - 1 - j)) undef) fr = fr') : ∃ g, fr' = ovrF lo n g fr := ⟨_, h.symm⟩
theorem drawj {T : Tab} (hT : TabOk P T) {r : Option Nat} {id : Nat} {ops : Array Oper} {Q : Post} {fr : Fr} {ds : List Deferred} {Fs Ls : LM} (hm : P.follows .mixedOrders = true) (hn : noDS ops = true) (hA : apartD ops = true) (hS : Sf M w0 w F L) (hf : Fs.Sublist F) (hs : Ls.Sublist L) (lo n i : Nat) (v : Value) {C : World → Prop}
    (h : ∀ w', Sf M w0 w' F L → XD T P (fun w'' => Sf M w0 w'' Fs Ls) ops.toList (fun fr' w => (∃ g, fr' = ovrF lo n g (fr.set i v)) ∧ C w) ops.toList.length (List.replicate ops.toList.length false) fr w') (hk : ∀ g w, C w → Q .normal (ovrF lo n g (fr.set i v)) ds w) : Wp P r (.region id ops true) Q fr ds w :=
  drawk hT hm hn hA hS hf hs _ h (by rintro fr w ⟨⟨g, rfl⟩, hc⟩; exact hk g w hc)
theorem Sf.pm (h : Sf M w0 w F L) {L' : LM} (p : L'.Perm L) : Sf M w0 w F L' := ⟨h.st.perm (List.Perm.append_left F p)⟩
theorem p3a {α : Type} {x y z : α} {r : List α} : List.Perm (x :: y :: z :: r) (y :: x :: z :: r) := .swap _ _ _
theorem p3b {α : Type} {x y z : α} {r : List α} : List.Perm (x :: y :: z :: r) (x :: z :: y :: r) := .cons _ (.swap _ _ _)
theorem p3c {α : Type} {x y z : α} {r : List α} : List.Perm (x :: y :: z :: r) (y :: z :: x :: r) := p3a.trans p3b
theorem p3d {α : Type} {x y z : α} {r : List α} : List.Perm (x :: y :: z :: r) (z :: x :: y :: r) := p3b.trans p3a
theorem p3e {α : Type} {x y z : α} {r : List α} : List.Perm (x :: y :: z :: r) (z :: y :: x :: r) := p3c.trans p3a
end
end Go.RV
