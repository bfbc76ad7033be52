/- Chapter 8's contracts over chapter 6's siblings. Conditions: none. -/
import Derived.Test.YtjgdcifkaopnpaaDoorNa1
import Derived.Test.YtjgdcifkaopnpaaDoorG14
import Derived.Test.YtjgdcifkaopnpaaDoorG12
set_option maxRecDepth 20000
set_option linter.unusedVariables false
set_option linter.unusedSimpArgs false
namespace Go.RV
open Go Go.Proofs

def to8 (x : Sx) : C08.Sx := ⟨x.r, x.n, x.v⟩
theorem flat8 : ∀ xs : List Sx, flat C08.encX (xs.map to8) = flat encX xs
  | [] => rfl
  | x :: xs => by
    have ih := flat8 xs
    show C08.encX (to8 x) ++ flat C08.encX (xs.map to8) = encX x ++ flat encX xs
    rw [ih]
    rfl
theorem few8_c (f : Nat → Int) (A : Option Addr) (c : Nat) (xs : List Sx) (w : World) (hR : Rd w A (flat encX xs)) (hn : xs.length ≤ 9223372036854775807) :
    Fc Tryd.prog 5 [regV f A xs.length c] w fun v w' => ∃ b, v = .bool b ∧ (b = true → xs.length ≤ 30 ∧ ∀ x ∈ xs, x.v.length ≤ 100) ∧ St [] w w' [] := by
  have h := C08.few_c f A c (xs.map to8) w (by rw [flat8]; exact hR) (by rw [List.length_map]; exact hn)
  rw [List.length_map] at h
  refine h.mono ?_
  rintro v w' ⟨rfl, hS⟩
  refine ⟨_, rfl, fun hb => ?_, hS⟩
  obtain ⟨h1, h2⟩ := C08.fewB_ok hb
  rw [List.length_map] at h1
  exact ⟨h1, fun x hx => h2 _ (List.mem_map.2 ⟨x, hx, rfl⟩)⟩
/-- what is seen of some siblings at a name -/
def seen8 (name : List UInt8) (xs : List Sx) : List C08.Sp := C08.seenP name (C08.grps (C08.alikeB fun a b => C08.sameT a b false) (xs.map to8))
theorem at8_c (f : Nat → Int) (A : Option Addr) (c : Nat) (xs : List Sx) (name : List UInt8) (w : World) (hR : Rd w A (flat encX xs)) (hn : xs.length ≤ 1000) (hx : ∀ x ∈ xs, x.v.length ≤ 1000) (hnm : name.length ≤ 1073741824)
    (hrn : ∀ x ∈ xs, (0 ≤ x.r ∧ x.r ≤ 255) ∧ 0 ≤ x.n ∧ x.n ≤ 4294967295) (ht : Lib.TabIs Tryd.prog w "internal/strconv.uint64pow10" .u64 Lib.pow10Tab) :
    Fc Tryd.prog 9 [regV f A xs.length c, .string (strY name), .bool false] w fun v w' => ∃ (l : List C08.Sn) (A2 : Option Addr) (c2 : Nat), l.map C08.sp = seen8 name xs ∧ v = .slice A2 l.length c2 ∧
      Rd w' A2 (flat C08.encSn l) ∧ (∀ x ∈ l, Rd w' x.g.A (flat encD x.g.ds)) ∧ St [] w w' [] := by
  have h := C08.at_known f A c (xs.map to8) name false w (by rw [flat8]; exact hR) (by rw [List.length_map]; exact hn)
    (fun x h => by obtain ⟨y, hy, rfl⟩ := List.mem_map.1 h; exact hx y hy) hnm (fun x h => by obtain ⟨y, hy, rfl⟩ := List.mem_map.1 h; exact hrn y hy)
    (fun x h _ => by
      obtain ⟨y, hy, rfl⟩ := List.mem_map.1 h
      have := hrn y hy
      exact ⟨C08.digs_tab ht this.1.1 (by have := this.1.2; show y.r ≤ _; omega), C08.digs_tab ht this.2.1 this.2.2⟩)
  rw [List.length_map] at h
  exact h
end Go.RV
