/- Contracts of functions of chapter 8: what is alike; what is seen, told. Conditions: none. -/
import Derived.Test.YtjgdcifkaopnpaaDoorG5
import Derived.Test.YtjgdcifkaopnpaaDoorG7
set_option maxRecDepth 20000
set_option linter.unusedVariables false
set_option linter.unusedSimpArgs false
namespace Go.RV.C08
open Go Go.Proofs

def dirB (a : List UInt8) : Bool := decide (a = [47])
def alikeB (sm : List UInt8 → List UInt8 → Bool) (a b : List UInt8) : Bool := if dirB a || dirB b then dirB a && dirB b else sm a b
theorem dir_c (a : List UInt8) (w : World) : Fc Tryd.prog 20 [.string (strY a)] w fun v w' => v = .bool (dirB a) ∧ St [] w w' [] := by
  refine fc_i TB_ok Tryd.func20 rfl (by kernel_rfl) ?_
  have hS := Sf.refl w
  repeat ((conv => whnf); first | (apply q_i; focus (intro w1 hS; (conv => whnf); first | exact ⟨rfl, rfl⟩)) | (refine nw_f hS ?_; intro b w1 hS) | (refine as_i hS ?_) | (refine as_i (hS.subs (List.nil_sublist _) (by repeat (first | exact List.Sublist.refl _ | apply List.Sublist.cons_cons | apply List.Sublist.cons))) ?_) | (refine as_i (hS.subs (List.Sublist.refl _) (by repeat (first | exact List.Sublist.refl _ | apply List.Sublist.cons_cons | apply List.Sublist.cons))) ?_) | (refine bar_f hS ?_) | (refine drawf TB_ok rfl (by kernel_rfl) (by kernel_rfl) hS (List.Sublist.refl _) (List.Sublist.refl _) ?_; intro w1 hS) | (refine br_t (by assumption) ?_) | (refine br_f (by assumption) ?_))
  exact ⟨congrArg Value.bool (streq_strY a [47]), hS.nil⟩
theorem alike_c (a b : List UInt8) (ha : a.length ≤ 1073741824) (hb : b.length ≤ 1073741824) (bd bs : Nat) (fv : Value) (sm : List UInt8 → List UInt8 → Bool) (w : World) (hf : TellsS w fv sm)
    (hH : Holds w [(bs, .cells #[fv] 59 (0, 0)), (bd, .cells #[.func (.func 20) #[] #[]] 31 (0, 0))]) :
    Fc Tryd.prog 44 [.string (strY a), .string (strY b), .pointer (some ⟨bd, 0, none⟩), .pointer (some ⟨bs, 0, none⟩)] w fun v w' => v = .bool (alikeB sm a b) ∧ St [] w w' [] := by
  refine fc_i TB_ok Tryd.func44 rfl (by kernel_rfl) ?_
  have hS := Sf.refl w
  have ha1 := fun w => dir_c a w
  have hb1 := fun w => dir_c b w
  unfold alikeB
  cases h1 : dirB a <;> cases h2 : dirB b
  all_goals
    rw [h1] at ha1
    rw [h2] at hb1
  · repeat ((conv => whnf); first | (apply q_i; focus (intro w1 hS; (conv => whnf); first | exact ⟨rfl, rfl⟩ | ((refine ld_h hS.nil hH 1 rfl rfl ?_); (conv => whnf); exact ⟨rfl, rfl⟩) | ((refine ld_h hS.nil hH 0 rfl rfl ?_); (conv => whnf); exact ⟨rfl, rfl⟩) | ((refine fc_m (ha1 _) ?_; rintro v w3 ⟨rfl, hS'⟩; replace hS := hS.call0 hS'); (conv => whnf); exact ⟨rfl, rfl⟩) | ((refine fc_m (hb1 _) ?_; rintro v w3 ⟨rfl, hS'⟩; replace hS := hS.call0 hS'); (conv => whnf); exact ⟨rfl, rfl⟩))) | (refine nw_f hS ?_; intro b w1 hS) | (refine as_i hS ?_) | (refine as_i (hS.subs (List.nil_sublist _) (by repeat (first | exact List.Sublist.refl _ | apply List.Sublist.cons_cons | apply List.Sublist.cons))) ?_) | (refine as_i (hS.subs (List.Sublist.refl _) (by repeat (first | exact List.Sublist.refl _ | apply List.Sublist.cons_cons | apply List.Sublist.cons))) ?_) | (refine bar_f hS ?_) | (refine ld_h hS.nil hH 1 rfl rfl ?_) | (refine ld_h hS.nil hH 0 rfl rfl ?_) | (refine fc_m (ha1 _) ?_; rintro v w3 ⟨rfl, hS'⟩; replace hS := hS.call0 hS') | (refine fc_m (hb1 _) ?_; rintro v w3 ⟨rfl, hS'⟩; replace hS := hS.call0 hS') | (refine drawf TB_ok rfl (by kernel_rfl) (by kernel_rfl) hS (List.Sublist.refl _) (List.Sublist.refl _) ?_; intro w1 hS) | (refine br_t (by assumption) ?_) | (refine br_f (by assumption) ?_))
    refine cv_i (Cv.mono (hf a b _ ha hb hS.nil) ?_)
    rintro v w1 ⟨rfl, hS'⟩
    replace hS := hS.call0 hS'
    repeat ((conv => whnf); first | (apply q_i; focus (intro w1 hS; (conv => whnf); first | exact ⟨rfl, rfl⟩)) | (refine nw_f hS ?_; intro b w1 hS) | (refine as_i hS ?_) | (refine as_i (hS.subs (List.nil_sublist _) (by repeat (first | exact List.Sublist.refl _ | apply List.Sublist.cons_cons | apply List.Sublist.cons))) ?_) | (refine as_i (hS.subs (List.Sublist.refl _) (by repeat (first | exact List.Sublist.refl _ | apply List.Sublist.cons_cons | apply List.Sublist.cons))) ?_) | (refine bar_f hS ?_) | (refine drawf TB_ok rfl (by kernel_rfl) (by kernel_rfl) hS (List.Sublist.refl _) (List.Sublist.refl _) ?_; intro w1 hS) | (refine br_t (by assumption) ?_) | (refine br_f (by assumption) ?_))
    exact ⟨rfl, hS.nil⟩
  all_goals
    repeat ((conv => whnf); first | (apply q_i; focus (intro w1 hS; (conv => whnf); first | exact ⟨rfl, rfl⟩ | ((refine ld_h hS.nil hH 1 rfl rfl ?_); (conv => whnf); exact ⟨rfl, rfl⟩) | ((refine ld_h hS.nil hH 0 rfl rfl ?_); (conv => whnf); exact ⟨rfl, rfl⟩) | ((refine fc_m (ha1 _) ?_; rintro v w3 ⟨rfl, hS'⟩; replace hS := hS.call0 hS'); (conv => whnf); exact ⟨rfl, rfl⟩) | ((refine fc_m (hb1 _) ?_; rintro v w3 ⟨rfl, hS'⟩; replace hS := hS.call0 hS'); (conv => whnf); exact ⟨rfl, rfl⟩))) | (refine nw_f hS ?_; intro b w1 hS) | (refine as_i hS ?_) | (refine as_i (hS.subs (List.nil_sublist _) (by repeat (first | exact List.Sublist.refl _ | apply List.Sublist.cons_cons | apply List.Sublist.cons))) ?_) | (refine as_i (hS.subs (List.Sublist.refl _) (by repeat (first | exact List.Sublist.refl _ | apply List.Sublist.cons_cons | apply List.Sublist.cons))) ?_) | (refine bar_f hS ?_) | (refine ld_h hS.nil hH 1 rfl rfl ?_) | (refine ld_h hS.nil hH 0 rfl rfl ?_) | (refine fc_m (ha1 _) ?_; rintro v w3 ⟨rfl, hS'⟩; replace hS := hS.call0 hS') | (refine fc_m (hb1 _) ?_; rintro v w3 ⟨rfl, hS'⟩; replace hS := hS.call0 hS') | (refine drawf TB_ok rfl (by kernel_rfl) (by kernel_rfl) hS (List.Sublist.refl _) (List.Sublist.refl _) ?_; intro w1 hS) | (refine br_t (by assumption) ?_) | (refine br_f (by assumption) ?_))
    exact ⟨rfl, hS.nil⟩
theorem alike_tells {bd bs : Nat} {fv : Value} {sm : List UInt8 → List UInt8 → Bool} {w : World} (hf : TellsS w fv sm)
    (hH : Holds w [(bs, .cells #[fv] 59 (0, 0)), (bd, .cells #[.func (.func 20) #[] #[]] 31 (0, 0))]) :
    TellsS w (.func (.func 44) #[] #[.pointer (some ⟨bd, 0, none⟩), .pointer (some ⟨bs, 0, none⟩)]) (alikeB sm) := fun a b w' ha hb h => Cv.of_fc (alike_c a b ha hb bd bs fv sm w' (hf.below h) (hH.below h))

/-- something seen -/
structure Sn where
  name : List UInt8
  dir : Bool
  conf : Bool
  g : Gx
def encSn (x : Sn) : List Value := [.string (strY x.name), .bool x.dir, .bool x.conf, .string (strY x.g.v), .slice x.g.A x.g.ds.length x.g.c]
theorem encSn_len (x : Sn) : (encSn x).length = 5 := rfl
def dirsOf (name : List UInt8) (gs : List Gx) : List Sn := (gs.filter fun g => dirB g.v).map fun g => ⟨name, true, false, g⟩
def confOf (name : List UInt8) (g : Gx) : List UInt8 := confT name (g.ds.headD (0, 0)).1 (g.ds.headD (0, 0)).2
def filesOf (name : List UInt8) (gs : List Gx) : List Sn := (gs.filter fun g => !dirB g.v).map fun g => ⟨confOf name g, false, true, g⟩
def first (name : List UInt8) : List Sn → List Sn
  | [] => []
  | x :: l => ⟨name, x.dir, false, x.g⟩ :: l
def seenOf (name : List UInt8) (gs : List Gx) : List Sn := if (dirsOf name gs).isEmpty then first name (filesOf name gs) else dirsOf name gs ++ filesOf name gs
theorem grpsF_ne (sm : List UInt8 → List UInt8 → Bool) (xs : List Sx) : ∀ k m, m + k = xs.length → ∀ g ∈ grpsF sm xs m, g.2 ≠ []
  | 0, m, h, g, hg => by
    obtain rfl : m = xs.length := by omega
    rw [grpsF_end] at hg
    cases hg
  | k+1, m, h, g, hg => by
    rw [grpsF_next sm xs (by omega)] at hg
    unfold stepG at hg
    split at hg
    · obtain ⟨j, hj, rfl⟩ := List.getElem_of_mem hg
      rw [List.length_modify] at hj
      rw [List.getElem_modify]
      have := grpsF_ne sm xs k (m + 1) (by omega) _ (List.getElem_mem hj)
      split
      · simp [addD]
      · exact this
    · rcases List.mem_append.1 hg with hg | hg
      · exact grpsF_ne sm xs k (m + 1) (by omega) g hg
      · obtain rfl := List.mem_singleton.1 hg
        simp
/-- each dot of a group is a sibling's -/
theorem grpsF_dot (sm : List UInt8 → List UInt8 → Bool) (xs : List Sx) : ∀ k m, m + k = xs.length → ∀ g ∈ grpsF sm xs m, ∀ d ∈ g.2, ∃ x ∈ xs, d = (x.r, x.n)
  | 0, m, h, g, hg, d, hd => by
    obtain rfl : m = xs.length := by omega
    rw [grpsF_end] at hg
    cases hg
  | k+1, m, h, g, hg, d, hd => by
    rw [grpsF_next sm xs (by omega)] at hg
    unfold stepG at hg
    split at hg
    · obtain ⟨j, hj, rfl⟩ := List.getElem_of_mem hg
      rw [List.length_modify] at hj
      rw [List.getElem_modify] at hd
      have := grpsF_dot sm xs k (m + 1) (by omega) _ (List.getElem_mem hj)
      split at hd
      · rcases List.mem_append.1 (show d ∈ (grpsF sm xs (m + 1))[j].2 ++ [(xs[m].r, xs[m].n)] from hd) with hd | hd
        · exact this d hd
        · obtain rfl := List.mem_singleton.1 hd
          exact ⟨xs[m], List.getElem_mem _, rfl⟩
      · exact this d hd
    · rcases List.mem_append.1 hg with hg | hg
      · exact grpsF_dot sm xs k (m + 1) (by omega) g hg d hd
      · obtain rfl := List.mem_singleton.1 hg
        obtain rfl := List.mem_singleton.1 hd
        exact ⟨xs[m], List.getElem_mem _, rfl⟩
theorem elSn : ElemOk Tryd.prog TB 33 40 5 64 := ⟨rfl, ⟨_, _, inf40, rfl, rfl, rfl, rfl⟩, by decide⟩
end Go.RV.C08
