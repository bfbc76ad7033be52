/- The laws of chapter 1, walked: CodecKnown. Conditions: none. (Printed by gen16.py.) -/
import Derived.Test.YtnkdalgkpmmkaaaV15
set_option maxRecDepth 20000
set_option linter.unusedVariables false
set_option linter.unusedSimpArgs false
namespace Go.RV
open Go Go.Proofs

theorem strQ {P : Program} {f : FuncId} {args : List Value} {w : World} {x : ByteArray} {X : World → Prop} (h : Fc P f args w fun v w' => v = .string x ∧ X w') (a : ByteArray) (e : streq x a = true) :
    Fc P f args w fun v w' => ∃ y, v = .string y ∧ streq y a = true ∧ (!streq y a) = false ∧ X w' :=
  Fc.mono h fun v w' h => ⟨_, h.1, e, by rw [e]; rfl, h.2⟩
theorem rsE {s : RS} (a : List UInt8) (b : Int) (h1 : s.rest = a) (h2 : s.e = b) : s = ⟨a, b⟩ := by cases s; subst h1; subst h2; rfl

theorem codecKnown_c (w : World) : Fc Try.prog 6 [] w fun v w' => v = .bool true ∧ St [] w w' [] := by
  refine fc_i TB_ok Try.func6 rfl (by kernel_rfl) ?_
  have hS := Sf.refl w
  repeat ((conv => whnf); first | (refine nw_f hS ?_; intro b w1 hS))
  obtain ⟨bw, hbw⟩ : ∃ x, x = b := ⟨b, rfl⟩
  subst hbw
  replace hS : Sf [] w _ ([(bw, Obj.cells #[.slice none 0 0] 28 (0, 0))] ++ []) [] := ⟨by simpa using hS.st⟩
  refine fc_m (w16_c bw [] _ (Wr.new bw) 258 (by decide) (by decide) _ hS.ownF (by decide)) ?_
  rintro v w11 ⟨L11, hW11, hS'⟩
  replace hS := hS.callW hS'
  have e11 : ([] : List UInt8) ++ be 258 2 = [1, 2] := by decide +kernel
  rw [e11] at hW11
  repeat ((conv => whnf); first | (refine nw_f hS ?_; intro b w1 hS))
  refine fc_m (wvar_c bw [1, 2] _ hW11 5 (by decide) (by decide) _ hS.ownF (by decide)) ?_
  rintro v w12 ⟨L12, hW12, hS'⟩
  replace hS := hS.callW hS'
  have e12 : [1, 2] ++ varD 5 = [1, 2, 5] := by decide +kernel
  rw [e12] at hW12
  repeat ((conv => whnf); first | (refine nw_f hS ?_; intro b w1 hS))
  refine fc_m (wvar_c bw [1, 2, 5] _ hW12 128 (by decide) (by decide) _ hS.ownF (by decide)) ?_
  rintro v w13 ⟨L13, hW13, hS'⟩
  replace hS := hS.callW hS'
  have e13 : [1, 2, 5] ++ varD 128 = [1, 2, 5, 128, 1] := by decide +kernel
  rw [e13] at hW13
  repeat ((conv => whnf); first | (refine nw_f hS ?_; intro b w1 hS))
  refine fc_m (wvar_c bw [1, 2, 5, 128, 1] _ hW13 300 (by decide) (by decide) _ hS.ownF (by decide)) ?_
  rintro v w14 ⟨L14, hW14, hS'⟩
  replace hS := hS.callW hS'
  have e14 : [1, 2, 5, 128, 1] ++ varD 300 = [1, 2, 5, 128, 1, 172, 2] := by decide +kernel
  rw [e14] at hW14
  repeat ((conv => whnf); first | (refine nw_f hS ?_; intro b w1 hS))
  refine fc_m (wtext_c bw [1, 2, 5, 128, 1, 172, 2] [97, 98] _ hW14 _ hS.ownF (by decide) (by decide)) ?_
  rintro v w15 ⟨L15, hW15, hS'⟩
  replace hS := hS.callW hS'
  have e15 : ([1, 2, 5, 128, 1, 172, 2] ++ textD [97, 98] : List UInt8) = [1, 2, 5, 128, 1, 172, 2, 2, 97, 98] := by decide +kernel
  rw [e15] at hW15
  repeat ((conv => whnf); first | (refine nw_f hS ?_; intro b w1 hS))
  refine fc_m (raw_c bw [1, 2, 5, 128, 1, 172, 2, 2, 97, 98] [99] _ hW15 _ hS.ownF (by decide)) ?_
  rintro v w16 ⟨L16, hW16, hS'⟩
  replace hS := hS.callW hS'
  have e16 : ([1, 2, 5, 128, 1, 172, 2, 2, 97, 98] ++ [99] : List UInt8) = [1, 2, 5, 128, 1, 172, 2, 2, 97, 98, 99] := by decide +kernel
  rw [e16] at hW16
  repeat ((conv => whnf); first | (refine nw_f hS ?_; intro b w1 hS))
  refine fc_m (strQ (bytes_c bw [1, 2, 5, 128, 1, 172, 2, 2, 97, 98, 99] _ hW16 _ hS.ownF) (strY [1, 2, 5, 128, 1, 172, 2, 2, 97, 98, 99]) (lit_eq _ (by decide +kernel))) ?_
  rintro v w17 ⟨y17, rfl, es17, en17, hS'⟩
  replace hS := hS.call0 hS'
  repeat ((conv => whnf); first | (refine nw_f hS ?_; intro b w1 hS) | (refine as_i hS ?_) | (refine bar_f hS ?_) | (refine drawf TB_ok rfl (by kernel_rfl) (by kernel_rfl) hS (List.Sublist.refl _) (List.Sublist.refl _) ?_; intro w1 hS) | (refine br_t (by assumption) ?_) | (refine br_f (by assumption) ?_) | (apply q_i; focus (intro w1 hS; (conv => whnf); first | exact ⟨rfl, rfl⟩)))
  refine fc_m (readsT_c [128, 0] 0 4 (by decide +kernel) (by decide +kernel) _) ?_
  rintro v w18 ⟨rfl, hS'⟩
  replace hS := hS.call0 hS'
  repeat ((conv => whnf); first | (refine nw_f hS ?_; intro b w1 hS) | (refine as_i hS ?_) | (refine bar_f hS ?_) | (refine drawf TB_ok rfl (by kernel_rfl) (by kernel_rfl) hS (List.Sublist.refl _) (List.Sublist.refl _) ?_; intro w1 hS) | (refine br_t (by assumption) ?_) | (refine br_f (by assumption) ?_) | (apply q_i; focus (intro w1 hS; (conv => whnf); first | exact ⟨rfl, rfl⟩)))
  refine fc_m (readsT_c [255, 255, 255, 255, 15] 4294967295 0 (by decide +kernel) (by decide +kernel) _) ?_
  rintro v w19 ⟨rfl, hS'⟩
  replace hS := hS.call0 hS'
  repeat ((conv => whnf); first | (refine nw_f hS ?_; intro b w1 hS) | (refine as_i hS ?_) | (refine bar_f hS ?_) | (refine drawf TB_ok rfl (by kernel_rfl) (by kernel_rfl) hS (List.Sublist.refl _) (List.Sublist.refl _) ?_; intro w1 hS) | (refine br_t (by assumption) ?_) | (refine br_f (by assumption) ?_) | (apply q_i; focus (intro w1 hS; (conv => whnf); first | exact ⟨rfl, rfl⟩)))
  refine fc_m (readsT_c [255, 255, 255, 255, 16] 0 4 (by decide +kernel) (by decide +kernel) _) ?_
  rintro v w20 ⟨rfl, hS'⟩
  replace hS := hS.call0 hS'
  repeat ((conv => whnf); first | (refine nw_f hS ?_; intro b w1 hS) | (refine as_i hS ?_) | (refine bar_f hS ?_) | (refine drawf TB_ok rfl (by kernel_rfl) (by kernel_rfl) hS (List.Sublist.refl _) (List.Sublist.refl _) ?_; intro w1 hS) | (refine br_t (by assumption) ?_) | (refine br_f (by assumption) ?_) | (apply q_i; focus (intro w1 hS; (conv => whnf); first | exact ⟨rfl, rfl⟩)))
  refine fc_m (readsT_c [255, 255, 255, 255, 128] 0 4 (by decide +kernel) (by decide +kernel) _) ?_
  rintro v w21 ⟨rfl, hS'⟩
  replace hS := hS.call0 hS'
  repeat ((conv => whnf); first | (refine nw_f hS ?_; intro b w1 hS) | (refine as_i hS ?_) | (refine bar_f hS ?_) | (refine drawf TB_ok rfl (by kernel_rfl) (by kernel_rfl) hS (List.Sublist.refl _) (List.Sublist.refl _) ?_; intro w1 hS) | (refine br_t (by assumption) ?_) | (refine br_f (by assumption) ?_) | (apply q_i; focus (intro w1 hS; (conv => whnf); first | exact ⟨rfl, rfl⟩)))
  refine fc_m (readsT_c [0] 0 0 (by decide +kernel) (by decide +kernel) _) ?_
  rintro v w22 ⟨rfl, hS'⟩
  replace hS := hS.call0 hS'
  repeat ((conv => whnf); first | (refine nw_f hS ?_; intro b w1 hS) | (refine as_i hS ?_) | (refine bar_f hS ?_) | (refine drawf TB_ok rfl (by kernel_rfl) (by kernel_rfl) hS (List.Sublist.refl _) (List.Sublist.refl _) ?_; intro w1 hS) | (refine br_t (by assumption) ?_) | (refine br_f (by assumption) ?_) | (apply q_i; focus (intro w1 hS; (conv => whnf); first | exact ⟨rfl, rfl⟩)))
  replace hS := hS.fr (List.nil_sublist _)
  replace hS : Sf [] w _ [] [] := ⟨by simpa using hS⟩
  refine fc_m (read_c [2, 97] _) ?_
  rintro v w23 ⟨ra, rfl, hS'⟩
  replace hS := hS.callF hS'
  repeat ((conv => whnf); first | (refine nw_f hS ?_; intro b w1 hS) | (refine as_i hS ?_) | (refine bar_f hS ?_) | (refine drawf TB_ok rfl (by kernel_rfl) (by kernel_rfl) hS (List.Sublist.refl _) (List.Sublist.refl _) ?_; intro w1 hS) | (refine br_t (by assumption) ?_) | (refine br_f (by assumption) ?_) | (apply q_i; focus (intro w1 hS; (conv => whnf); first | exact ⟨rfl, rfl⟩)))
  refine fc_m (read_c [2, 97, 98, 99] _) ?_
  rintro v w24 ⟨rb, rfl, hS'⟩
  replace hS := hS.callF hS'
  repeat ((conv => whnf); first | (refine nw_f hS ?_; intro b w1 hS) | (refine as_i hS ?_) | (refine bar_f hS ?_) | (refine drawf TB_ok rfl (by kernel_rfl) (by kernel_rfl) hS (List.Sublist.refl _) (List.Sublist.refl _) ?_; intro w1 hS) | (refine br_t (by assumption) ?_) | (refine br_f (by assumption) ?_) | (apply q_i; focus (intro w1 hS; (conv => whnf); first | exact ⟨rfl, rfl⟩)))
  refine fc_m (read_c [97, 98, 99] _) ?_
  rintro v w25 ⟨rc, rfl, hS'⟩
  replace hS := hS.callF hS'
  repeat ((conv => whnf); first | (refine nw_f hS ?_; intro b w1 hS) | (refine as_i hS ?_) | (refine bar_f hS ?_) | (refine drawf TB_ok rfl (by kernel_rfl) (by kernel_rfl) hS (List.Sublist.refl _) (List.Sublist.refl _) ?_; intro w1 hS) | (refine br_t (by assumption) ?_) | (refine br_f (by assumption) ?_) | (apply q_i; focus (intro w1 hS; (conv => whnf); first | exact ⟨rfl, rfl⟩)))
  replace hS := hS.rot2
  refine fc_m (strQ (rtextR_c ra ⟨[2, 97], 0⟩ _ hS.ownF) (strY []) (lit_eq _ (by decide +kernel))) ?_
  rintro v w26 ⟨y26, rfl, es26, en26, hS'⟩
  rw [rsE (s := (textR ⟨[2, 97], 0⟩).2) [] 10 (by decide +kernel) (by decide +kernel)] at hS'
  replace hS := hS.callW hS'
  repeat ((conv => whnf); first | (refine nw_f hS ?_; intro b w1 hS) | (refine as_i hS ?_) | (refine bar_f hS ?_) | (refine drawf TB_ok rfl (by kernel_rfl) (by kernel_rfl) hS (List.Sublist.refl _) (List.Sublist.refl _) ?_; intro w1 hS) | (refine br_t (by assumption) ?_) | (refine br_f (by assumption) ?_) | (apply q_i; focus (intro w1 hS; (conv => whnf); first | exact ⟨rfl, rfl⟩)))
  refine fc_m (rerr_c ra ⟨[], 10⟩ _ hS.ownF) ?_
  rintro v w27 ⟨rfl, hS'⟩
  replace hS := hS.call0 hS'
  repeat ((conv => whnf); first | (refine nw_f hS ?_; intro b w1 hS) | (refine as_i hS ?_) | (refine bar_f hS ?_) | (refine drawf TB_ok rfl (by kernel_rfl) (by kernel_rfl) hS (List.Sublist.refl _) (List.Sublist.refl _) ?_; intro w1 hS) | (refine br_t (by assumption) ?_) | (refine br_f (by assumption) ?_) | (apply q_i; focus (intro w1 hS; (conv => whnf); first | exact ⟨rfl, rfl⟩)))
  refine fc_m (rend_c ra ⟨[], 10⟩ _ hS.ownF) ?_
  rintro v w28 ⟨rfl, hS'⟩
  rw [show endR ⟨[], 10⟩ = 10 from by decide +kernel]
  replace hS := hS.call0 hS'
  repeat ((conv => whnf); first | (refine nw_f hS ?_; intro b w1 hS) | (refine as_i hS ?_) | (refine bar_f hS ?_) | (refine drawf TB_ok rfl (by kernel_rfl) (by kernel_rfl) hS (List.Sublist.refl _) (List.Sublist.refl _) ?_; intro w1 hS) | (refine br_t (by assumption) ?_) | (refine br_f (by assumption) ?_) | (apply q_i; focus (intro w1 hS; (conv => whnf); first | exact ⟨rfl, rfl⟩)))
  replace hS := hS.rot2
  refine fc_m (strQ (rtextR_c rb ⟨[2, 97, 98, 99], 0⟩ _ hS.ownF) (strY [97, 98]) (lit_eq _ (by decide +kernel))) ?_
  rintro v w29 ⟨y29, rfl, es29, en29, hS'⟩
  rw [rsE (s := (textR ⟨[2, 97, 98, 99], 0⟩).2) [99] 0 (by decide +kernel) (by decide +kernel)] at hS'
  replace hS := hS.callW hS'
  repeat ((conv => whnf); first | (refine nw_f hS ?_; intro b w1 hS) | (refine as_i hS ?_) | (refine bar_f hS ?_) | (refine drawf TB_ok rfl (by kernel_rfl) (by kernel_rfl) hS (List.Sublist.refl _) (List.Sublist.refl _) ?_; intro w1 hS) | (refine br_t (by assumption) ?_) | (refine br_f (by assumption) ?_) | (apply q_i; focus (intro w1 hS; (conv => whnf); first | exact ⟨rfl, rfl⟩)))
  refine fc_m (strQ (rrest_c rb ⟨[99], 0⟩ _ hS.ownF) (strY [99]) (lit_eq _ (by decide +kernel))) ?_
  rintro v w30 ⟨y30, rfl, es30, en30, hS'⟩
  replace hS := hS.call0 hS'
  repeat ((conv => whnf); first | (refine nw_f hS ?_; intro b w1 hS) | (refine as_i hS ?_) | (refine bar_f hS ?_) | (refine drawf TB_ok rfl (by kernel_rfl) (by kernel_rfl) hS (List.Sublist.refl _) (List.Sublist.refl _) ?_; intro w1 hS) | (refine br_t (by assumption) ?_) | (refine br_f (by assumption) ?_) | (apply q_i; focus (intro w1 hS; (conv => whnf); first | exact ⟨rfl, rfl⟩)))
  refine fc_m (rend_c rb ⟨[99], 0⟩ _ hS.ownF) ?_
  rintro v w31 ⟨rfl, hS'⟩
  rw [show endR ⟨[99], 0⟩ = 4 from by decide +kernel]
  replace hS := hS.call0 hS'
  repeat ((conv => whnf); first | (refine nw_f hS ?_; intro b w1 hS) | (refine as_i hS ?_) | (refine bar_f hS ?_) | (refine drawf TB_ok rfl (by kernel_rfl) (by kernel_rfl) hS (List.Sublist.refl _) (List.Sublist.refl _) ?_; intro w1 hS) | (refine br_t (by assumption) ?_) | (refine br_f (by assumption) ?_) | (apply q_i; focus (intro w1 hS; (conv => whnf); first | exact ⟨rfl, rfl⟩)))
  refine fc_m (r8_c rb ⟨[99], 0⟩ _ hS.ownF) ?_
  rintro v w32 ⟨rfl, hS'⟩
  rw [show IntKind.u8.wrap (numF 0 (fixedR ⟨[99], 0⟩ 1).1) = 99 from by decide +kernel]
  rw [rsE (s := (fixedR ⟨[99], 0⟩ 1).2) [] 0 (by decide +kernel) (by decide +kernel)] at hS'
  replace hS := hS.callW hS'
  repeat ((conv => whnf); first | (refine nw_f hS ?_; intro b w1 hS) | (refine as_i hS ?_) | (refine bar_f hS ?_) | (refine drawf TB_ok rfl (by kernel_rfl) (by kernel_rfl) hS (List.Sublist.refl _) (List.Sublist.refl _) ?_; intro w1 hS) | (refine br_t (by assumption) ?_) | (refine br_f (by assumption) ?_) | (apply q_i; focus (intro w1 hS; (conv => whnf); first | exact ⟨rfl, rfl⟩)))
  refine fc_m (rend_c rb ⟨[], 0⟩ _ hS.ownF) ?_
  rintro v w33 ⟨rfl, hS'⟩
  rw [show endR ⟨[], 0⟩ = 0 from by decide +kernel]
  replace hS := hS.call0 hS'
  repeat ((conv => whnf); first | (refine nw_f hS ?_; intro b w1 hS) | (refine as_i hS ?_) | (refine bar_f hS ?_) | (refine drawf TB_ok rfl (by kernel_rfl) (by kernel_rfl) hS (List.Sublist.refl _) (List.Sublist.refl _) ?_; intro w1 hS) | (refine br_t (by assumption) ?_) | (refine br_f (by assumption) ?_) | (apply q_i; focus (intro w1 hS; (conv => whnf); first | exact ⟨rfl, rfl⟩)))
  replace hS := hS.rot2
  refine fc_m (strQ (rfixed0_c rc ⟨[97, 98, 99], 0⟩ 2 _ hS.ownF) (strY [97, 98]) (lit_eq _ (by decide +kernel))) ?_
  rintro v w34 ⟨y34, rfl, es34, en34, hS'⟩
  rw [rsE (s := (fixedR ⟨[97, 98, 99], 0⟩ 2).2) [99] 0 (by decide +kernel) (by decide +kernel)] at hS'
  replace hS := hS.callW hS'
  repeat ((conv => whnf); first | (refine nw_f hS ?_; intro b w1 hS) | (refine as_i hS ?_) | (refine bar_f hS ?_) | (refine drawf TB_ok rfl (by kernel_rfl) (by kernel_rfl) hS (List.Sublist.refl _) (List.Sublist.refl _) ?_; intro w1 hS) | (refine br_t (by assumption) ?_) | (refine br_f (by assumption) ?_) | (apply q_i; focus (intro w1 hS; (conv => whnf); first | exact ⟨rfl, rfl⟩)))
  refine fc_m (strQ (rfixed0_c rc ⟨[99], 0⟩ (-1) _ hS.ownF) (strY []) (lit_eq _ (by decide +kernel))) ?_
  rintro v w35 ⟨y35, rfl, es35, en35, hS'⟩
  rw [rsE (s := (fixedR ⟨[99], 0⟩ (-1)).2) [99] 0 (by decide +kernel) (by decide +kernel)] at hS'
  replace hS := hS.callW hS'
  repeat ((conv => whnf); first | (refine nw_f hS ?_; intro b w1 hS) | (refine as_i hS ?_) | (refine bar_f hS ?_) | (refine drawf TB_ok rfl (by kernel_rfl) (by kernel_rfl) hS (List.Sublist.refl _) (List.Sublist.refl _) ?_; intro w1 hS) | (refine br_t (by assumption) ?_) | (refine br_f (by assumption) ?_) | (apply q_i; focus (intro w1 hS; (conv => whnf); first | exact ⟨rfl, rfl⟩)))
  refine fc_m (rerr_c rc ⟨[99], 0⟩ _ hS.ownF) ?_
  rintro v w36 ⟨rfl, hS'⟩
  replace hS := hS.call0 hS'
  repeat ((conv => whnf); first | (refine nw_f hS ?_; intro b w1 hS) | (refine as_i hS ?_) | (refine bar_f hS ?_) | (refine drawf TB_ok rfl (by kernel_rfl) (by kernel_rfl) hS (List.Sublist.refl _) (List.Sublist.refl _) ?_; intro w1 hS) | (refine br_t (by assumption) ?_) | (refine br_f (by assumption) ?_) | (apply q_i; focus (intro w1 hS; (conv => whnf); first | exact ⟨rfl, rfl⟩)))
  refine fc_m (strQ (rfixed0_c rc ⟨[99], 0⟩ 9 _ hS.ownF) (strY []) (lit_eq _ (by decide +kernel))) ?_
  rintro v w37 ⟨y37, rfl, es37, en37, hS'⟩
  rw [rsE (s := (fixedR ⟨[99], 0⟩ 9).2) [] 10 (by decide +kernel) (by decide +kernel)] at hS'
  replace hS := hS.callW hS'
  repeat ((conv => whnf); first | (refine nw_f hS ?_; intro b w1 hS) | (refine as_i hS ?_) | (refine bar_f hS ?_) | (refine drawf TB_ok rfl (by kernel_rfl) (by kernel_rfl) hS (List.Sublist.refl _) (List.Sublist.refl _) ?_; intro w1 hS) | (refine br_t (by assumption) ?_) | (refine br_f (by assumption) ?_) | (apply q_i; focus (intro w1 hS; (conv => whnf); first | exact ⟨rfl, rfl⟩)))
  refine fc_m (rerr_c rc ⟨[], 10⟩ _ hS.ownF) ?_
  rintro v w38 ⟨rfl, hS'⟩
  replace hS := hS.call0 hS'
  repeat ((conv => whnf); first | (refine nw_f hS ?_; intro b w1 hS) | (refine as_i hS ?_) | (refine bar_f hS ?_) | (refine drawf TB_ok rfl (by kernel_rfl) (by kernel_rfl) hS (List.Sublist.refl _) (List.Sublist.refl _) ?_; intro w1 hS) | (refine br_t (by assumption) ?_) | (refine br_f (by assumption) ?_) | (apply q_i; focus (intro w1 hS; (conv => whnf); first | exact ⟨rfl, rfl⟩)))
  refine fc_m (r8_c rc ⟨[], 10⟩ _ hS.ownF) ?_
  rintro v w39 ⟨rfl, hS'⟩
  rw [show IntKind.u8.wrap (numF 0 (fixedR ⟨[], 10⟩ 1).1) = 0 from by decide +kernel]
  rw [rsE (s := (fixedR ⟨[], 10⟩ 1).2) [] 10 (by decide +kernel) (by decide +kernel)] at hS'
  replace hS := hS.callW hS'
  repeat ((conv => whnf); first | (refine nw_f hS ?_; intro b w1 hS) | (refine as_i hS ?_) | (refine bar_f hS ?_) | (refine drawf TB_ok rfl (by kernel_rfl) (by kernel_rfl) hS (List.Sublist.refl _) (List.Sublist.refl _) ?_; intro w1 hS) | (refine br_t (by assumption) ?_) | (refine br_f (by assumption) ?_) | (apply q_i; focus (intro w1 hS; (conv => whnf); first | exact ⟨rfl, rfl⟩)))
  refine fc_m (strQ (rrest_c rc ⟨[], 10⟩ _ hS.ownF) (strY []) (lit_eq _ (by decide +kernel))) ?_
  rintro v w40 ⟨y40, rfl, es40, en40, hS'⟩
  replace hS := hS.call0 hS'
  repeat ((conv => whnf); first | (refine nw_f hS ?_; intro b w1 hS) | (refine as_i hS ?_) | (refine bar_f hS ?_) | (refine drawf TB_ok rfl (by kernel_rfl) (by kernel_rfl) hS (List.Sublist.refl _) (List.Sublist.refl _) ?_; intro w1 hS) | (refine br_t (by assumption) ?_) | (refine br_f (by assumption) ?_) | (apply q_i; focus (intro w1 hS; (conv => whnf); first | exact ⟨rfl, rfl⟩)))
  obtain ⟨bx, hbx⟩ : ∃ x, x = b := ⟨b, rfl⟩
  subst hbx
  replace hS : Sf [] w _ ([(bx, Obj.cells #[.slice none 0 0] 28 (0, 0))] ++ []) [] := ⟨by simpa using hS.sub (List.Sublist.refl _)⟩
  refine fc_m (w32_c bx [] _ (Wr.new bx) 2147483650 (by decide) (by decide) _ hS.ownF (by decide)) ?_
  rintro v w80 ⟨L80, hW80, hS'⟩
  replace hS := hS.callW hS'
  have e80 : ([] : List UInt8) ++ be 2147483650 4 = [128, 0, 0, 2] := by decide +kernel
  rw [e80] at hW80
  repeat ((conv => whnf); first | (refine nw_f hS ?_; intro b w1 hS) | (refine as_i hS ?_) | (refine bar_f hS ?_) | (refine drawf TB_ok rfl (by kernel_rfl) (by kernel_rfl) hS (List.Sublist.refl _) (List.Sublist.refl _) ?_; intro w1 hS) | (refine br_t (by assumption) ?_) | (refine br_f (by assumption) ?_) | (apply q_i; focus (intro w1 hS; (conv => whnf); first | exact ⟨rfl, rfl⟩)))
  refine fc_m (textN _) ?_
  rintro v w81 hS'
  replace hS := hS.call0 hS'
  repeat ((conv => whnf); first | (refine nw_f hS ?_; intro b w1 hS) | (refine as_i hS ?_) | (refine bar_f hS ?_) | (refine drawf TB_ok rfl (by kernel_rfl) (by kernel_rfl) hS (List.Sublist.refl _) (List.Sublist.refl _) ?_; intro w1 hS) | (refine br_t (by assumption) ?_) | (refine br_f (by assumption) ?_) | (apply q_i; focus (intro w1 hS; (conv => whnf); first | exact ⟨rfl, rfl⟩)))
  refine fc_m (varN1 _) ?_
  rintro v w82 hS'
  replace hS := hS.call0 hS'
  repeat ((conv => whnf); first | (refine nw_f hS ?_; intro b w1 hS) | (refine as_i hS ?_) | (refine bar_f hS ?_) | (refine drawf TB_ok rfl (by kernel_rfl) (by kernel_rfl) hS (List.Sublist.refl _) (List.Sublist.refl _) ?_; intro w1 hS) | (refine br_t (by assumption) ?_) | (refine br_f (by assumption) ?_) | (apply q_i; focus (intro w1 hS; (conv => whnf); first | exact ⟨rfl, rfl⟩)))
  refine fc_m (strQ (bytes_c bx [128, 0, 0, 2] _ hW80 _ hS.ownF) (strY [128, 0, 0, 2]) (lit_eq _ rfl)) ?_
  rintro v w83 ⟨y83, rfl, es83, en83, hS'⟩
  replace hS := hS.call0 hS'
  repeat ((conv => whnf); first | (refine nw_f hS ?_; intro b w1 hS) | (refine as_i hS ?_) | (refine bar_f hS ?_) | (refine drawf TB_ok rfl (by kernel_rfl) (by kernel_rfl) hS (List.Sublist.refl _) (List.Sublist.refl _) ?_; intro w1 hS) | (refine br_t (by assumption) ?_) | (refine br_f (by assumption) ?_) | (apply q_i; focus (intro w1 hS; (conv => whnf); first | exact ⟨rfl, rfl⟩)))
  refine fc_m (strQ (bytesN _) (strY []) (lit_eq (bs := []) [] rfl)) ?_
  rintro v w41 ⟨y41, rfl, es41, en41, hS'⟩
  replace hS := hS.call0 hS'
  repeat ((conv => whnf); first | (refine nw_f hS ?_; intro b w1 hS) | (refine as_i hS ?_) | (refine bar_f hS ?_) | (refine drawf TB_ok rfl (by kernel_rfl) (by kernel_rfl) hS (List.Sublist.refl _) (List.Sublist.refl _) ?_; intro w1 hS) | (refine br_t (by assumption) ?_) | (refine br_f (by assumption) ?_) | (apply q_i; focus (intro w1 hS; (conv => whnf); first | exact ⟨rfl, rfl⟩)))
  refine fc_m (r32N _) ?_
  rintro v w42 ⟨rfl, hS'⟩
  replace hS := hS.call0 hS'
  repeat ((conv => whnf); first | (refine nw_f hS ?_; intro b w1 hS) | (refine as_i hS ?_) | (refine bar_f hS ?_) | (refine drawf TB_ok rfl (by kernel_rfl) (by kernel_rfl) hS (List.Sublist.refl _) (List.Sublist.refl _) ?_; intro w1 hS) | (refine br_t (by assumption) ?_) | (refine br_f (by assumption) ?_) | (apply q_i; focus (intro w1 hS; (conv => whnf); first | exact ⟨rfl, rfl⟩)))
  refine fc_m (varN _) ?_
  rintro v w43 ⟨rfl, hS'⟩
  replace hS := hS.call0 hS'
  repeat ((conv => whnf); first | (refine nw_f hS ?_; intro b w1 hS) | (refine as_i hS ?_) | (refine bar_f hS ?_) | (refine drawf TB_ok rfl (by kernel_rfl) (by kernel_rfl) hS (List.Sublist.refl _) (List.Sublist.refl _) ?_; intro w1 hS) | (refine br_t (by assumption) ?_) | (refine br_f (by assumption) ?_) | (apply q_i; focus (intro w1 hS; (conv => whnf); first | exact ⟨rfl, rfl⟩)))
  refine fc_m (strQ (rtextN _) (strY []) (lit_eq (bs := []) [] rfl)) ?_
  rintro v w44 ⟨y44, rfl, es44, en44, hS'⟩
  replace hS := hS.call0 hS'
  repeat ((conv => whnf); first | (refine nw_f hS ?_; intro b w1 hS) | (refine as_i hS ?_) | (refine bar_f hS ?_) | (refine drawf TB_ok rfl (by kernel_rfl) (by kernel_rfl) hS (List.Sublist.refl _) (List.Sublist.refl _) ?_; intro w1 hS) | (refine br_t (by assumption) ?_) | (refine br_f (by assumption) ?_) | (apply q_i; focus (intro w1 hS; (conv => whnf); first | exact ⟨rfl, rfl⟩)))
  refine fc_m (strQ (fixedN 1 _) (strY []) (lit_eq (bs := []) [] rfl)) ?_
  rintro v w45 ⟨y45, rfl, es45, en45, hS'⟩
  replace hS := hS.call0 hS'
  repeat ((conv => whnf); first | (refine nw_f hS ?_; intro b w1 hS) | (refine as_i hS ?_) | (refine bar_f hS ?_) | (refine drawf TB_ok rfl (by kernel_rfl) (by kernel_rfl) hS (List.Sublist.refl _) (List.Sublist.refl _) ?_; intro w1 hS) | (refine br_t (by assumption) ?_) | (refine br_f (by assumption) ?_) | (apply q_i; focus (intro w1 hS; (conv => whnf); first | exact ⟨rfl, rfl⟩)))
  refine fc_m (errN _) ?_
  rintro v w46 ⟨rfl, hS'⟩
  replace hS := hS.call0 hS'
  repeat ((conv => whnf); first | (refine nw_f hS ?_; intro b w1 hS) | (refine as_i hS ?_) | (refine bar_f hS ?_) | (refine drawf TB_ok rfl (by kernel_rfl) (by kernel_rfl) hS (List.Sublist.refl _) (List.Sublist.refl _) ?_; intro w1 hS) | (refine br_t (by assumption) ?_) | (refine br_f (by assumption) ?_) | (apply q_i; focus (intro w1 hS; (conv => whnf); first | exact ⟨rfl, rfl⟩)))
  refine fc_m (strQ (restN _) (strY []) (lit_eq (bs := []) [] rfl)) ?_
  rintro v w47 ⟨y47, rfl, es47, en47, hS'⟩
  replace hS := hS.call0 hS'
  repeat ((conv => whnf); first | (refine nw_f hS ?_; intro b w1 hS) | (refine as_i hS ?_) | (refine bar_f hS ?_) | (refine drawf TB_ok rfl (by kernel_rfl) (by kernel_rfl) hS (List.Sublist.refl _) (List.Sublist.refl _) ?_; intro w1 hS) | (refine br_t (by assumption) ?_) | (refine br_f (by assumption) ?_) | (apply q_i; focus (intro w1 hS; (conv => whnf); first | exact ⟨rfl, rfl⟩)))
  refine fc_m (endN _) ?_
  rintro v w48 ⟨rfl, hS'⟩
  replace hS := hS.call0 hS'
  repeat ((conv => whnf); first | (refine nw_f hS ?_; intro b w1 hS) | (refine as_i hS ?_) | (refine bar_f hS ?_) | (refine drawf TB_ok rfl (by kernel_rfl) (by kernel_rfl) hS (List.Sublist.refl _) (List.Sublist.refl _) ?_; intro w1 hS) | (refine br_t (by assumption) ?_) | (refine br_f (by assumption) ?_) | (apply q_i; focus (intro w1 hS; (conv => whnf); first | exact ⟨rfl, rfl⟩)))
  refine fc_m (awake_c _) ?_
  rintro v w99 ⟨rfl, hS'⟩
  replace hS := hS.call0 hS'
  repeat ((conv => whnf); first | (refine nw_f hS ?_; intro b w1 hS) | (refine as_i hS ?_) | (refine bar_f hS ?_) | (refine drawf TB_ok rfl (by kernel_rfl) (by kernel_rfl) hS (List.Sublist.refl _) (List.Sublist.refl _) ?_; intro w1 hS) | (refine br_t (by assumption) ?_) | (refine br_f (by assumption) ?_) | (apply q_i; focus (intro w1 hS; (conv => whnf); first | exact ⟨rfl, rfl⟩)))
  exact ⟨rfl, hS.nil⟩
end Go.RV
