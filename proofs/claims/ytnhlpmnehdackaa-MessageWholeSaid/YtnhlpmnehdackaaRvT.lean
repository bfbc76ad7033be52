/- The table of this seat's types. Conditions: none. -/
import Derived.Test.YtnhlpmnehdackaaRvM
import Derived.Test.YtnhlpmnehdackaaProg
import Derived.KernelRfl
namespace Go.RV
open Go Go.Proofs
theorem inf0 : Try.prog.info? 0 = some Try.t0 := by kernel_rfl
theorem inf1 : Try.prog.info? 1 = some Try.t1 := by kernel_rfl
theorem inf2 : Try.prog.info? 2 = some Try.t2 := by kernel_rfl
theorem inf3 : Try.prog.info? 3 = some Try.t3 := by kernel_rfl
theorem inf4 : Try.prog.info? 4 = some Try.t4 := by kernel_rfl
theorem inf5 : Try.prog.info? 5 = some Try.t5 := by kernel_rfl
theorem inf6 : Try.prog.info? 6 = some Try.t6 := by kernel_rfl
theorem inf7 : Try.prog.info? 7 = some Try.t7 := by kernel_rfl
theorem inf8 : Try.prog.info? 8 = some Try.t8 := by kernel_rfl
theorem inf9 : Try.prog.info? 9 = some Try.t9 := by kernel_rfl
theorem inf10 : Try.prog.info? 10 = some Try.t10 := by kernel_rfl
theorem inf11 : Try.prog.info? 11 = some Try.t11 := by kernel_rfl
theorem inf12 : Try.prog.info? 12 = some Try.t12 := by kernel_rfl
theorem inf13 : Try.prog.info? 13 = some Try.t13 := by kernel_rfl
theorem inf14 : Try.prog.info? 14 = some Try.t14 := by kernel_rfl
theorem inf15 : Try.prog.info? 15 = some Try.t15 := by kernel_rfl
theorem inf16 : Try.prog.info? 16 = some Try.t16 := by kernel_rfl
theorem inf17 : Try.prog.info? 17 = some Try.t17 := by kernel_rfl
theorem inf18 : Try.prog.info? 18 = some Try.t18 := by kernel_rfl
theorem inf19 : Try.prog.info? 19 = some Try.t19 := by kernel_rfl
theorem inf20 : Try.prog.info? 20 = some Try.t20 := by kernel_rfl
theorem inf21 : Try.prog.info? 21 = some Try.t21 := by kernel_rfl
theorem inf22 : Try.prog.info? 22 = some Try.t22 := by kernel_rfl
theorem inf23 : Try.prog.info? 23 = some Try.t23 := by kernel_rfl
theorem inf24 : Try.prog.info? 24 = some Try.t24 := by kernel_rfl
theorem inf25 : Try.prog.info? 25 = some Try.t25 := by kernel_rfl
theorem inf26 : Try.prog.info? 26 = some Try.t26 := by kernel_rfl
theorem inf27 : Try.prog.info? 27 = some Try.t27 := by kernel_rfl
theorem inf28 : Try.prog.info? 28 = some Try.t28 := by kernel_rfl
theorem inf29 : Try.prog.info? 29 = some Try.t29 := by kernel_rfl
theorem inf30 : Try.prog.info? 30 = some Try.t30 := by kernel_rfl
theorem inf31 : Try.prog.info? 31 = some Try.t31 := by kernel_rfl
theorem inf32 : Try.prog.info? 32 = some Try.t32 := by kernel_rfl
theorem inf33 : Try.prog.info? 33 = some Try.t33 := by kernel_rfl
theorem inf34 : Try.prog.info? 34 = some Try.t34 := by kernel_rfl
theorem inf35 : Try.prog.info? 35 = some Try.t35 := by kernel_rfl
theorem inf36 : Try.prog.info? 36 = some Try.t36 := by kernel_rfl
theorem inf37 : Try.prog.info? 37 = some Try.t37 := by kernel_rfl
theorem inf38 : Try.prog.info? 38 = some Try.t38 := by kernel_rfl
theorem inf39 : Try.prog.info? 39 = some Try.t39 := by kernel_rfl
theorem inf40 : Try.prog.info? 40 = some Try.t40 := by kernel_rfl
theorem inf41 : Try.prog.info? 41 = some Try.t41 := by kernel_rfl
theorem inf42 : Try.prog.info? 42 = some Try.t42 := by kernel_rfl
theorem inf43 : Try.prog.info? 43 = some Try.t43 := by kernel_rfl
theorem inf44 : Try.prog.info? 44 = some Try.t44 := by kernel_rfl
theorem inf45 : Try.prog.info? 45 = some Try.t45 := by kernel_rfl
theorem inf46 : Try.prog.info? 46 = some Try.t46 := by kernel_rfl
theorem inf47 : Try.prog.info? 47 = some Try.t47 := by kernel_rfl
theorem inf48 : Try.prog.info? 48 = some Try.t48 := by kernel_rfl
theorem inf49 : Try.prog.info? 49 = some Try.t49 := by kernel_rfl
theorem inf50 : Try.prog.info? 50 = some Try.t50 := by kernel_rfl
theorem inf51 : Try.prog.info? 51 = some Try.t51 := by kernel_rfl
theorem inf52 : Try.prog.info? 52 = some Try.t52 := by kernel_rfl
theorem inf53 : Try.prog.info? 53 = some Try.t53 := by kernel_rfl
theorem inf54 : Try.prog.info? 54 = some Try.t54 := by kernel_rfl
theorem inf55 : Try.prog.info? 55 = some Try.t55 := by kernel_rfl
theorem inf56 : Try.prog.info? 56 = some Try.t56 := by kernel_rfl
theorem inf57 : Try.prog.info? 57 = some Try.t57 := by kernel_rfl
theorem inf58 : Try.prog.info? 58 = some Try.t58 := by kernel_rfl
theorem inf59 : Try.prog.info? 59 = some Try.t59 := by kernel_rfl
theorem inf60 : Try.prog.info? 60 = some Try.t60 := by kernel_rfl
theorem inf61 : Try.prog.info? 61 = some Try.t61 := by kernel_rfl
theorem inf62 : Try.prog.info? 62 = some Try.t62 := by kernel_rfl
theorem inf63 : Try.prog.info? 63 = some Try.t63 := by kernel_rfl
theorem inf64 : Try.prog.info? 64 = some Try.t64 := by kernel_rfl
theorem inf65 : Try.prog.info? 65 = some Try.t65 := by kernel_rfl
theorem inf66 : Try.prog.info? 66 = some Try.t66 := by kernel_rfl
theorem inf67 : Try.prog.info? 67 = some Try.t67 := by kernel_rfl
theorem inf68 : Try.prog.info? 68 = some Try.t68 := by kernel_rfl
theorem inf69 : Try.prog.info? 69 = some Try.t69 := by kernel_rfl
theorem inf70 : Try.prog.info? 70 = some Try.t70 := by kernel_rfl
theorem inf71 : Try.prog.info? 71 = some Try.t71 := by kernel_rfl
theorem inf72 : Try.prog.info? 72 = some Try.t72 := by kernel_rfl
theorem inf73 : Try.prog.info? 73 = some Try.t73 := by kernel_rfl
theorem inf74 : Try.prog.info? 74 = some Try.t74 := by kernel_rfl
theorem inf75 : Try.prog.info? 75 = some Try.t75 := by kernel_rfl
theorem inf76 : Try.prog.info? 76 = some Try.t76 := by kernel_rfl
theorem inf77 : Try.prog.info? 77 = some Try.t77 := by kernel_rfl
theorem inf78 : Try.prog.info? 78 = some Try.t78 := by kernel_rfl
theorem inf79 : Try.prog.info? 79 = some Try.t79 := by kernel_rfl
theorem inf80 : Try.prog.info? 80 = some Try.t80 := by kernel_rfl
theorem inf81 : Try.prog.info? 81 = some Try.t81 := by kernel_rfl
theorem inf82 : Try.prog.info? 82 = some Try.t82 := by kernel_rfl
theorem inf83 : Try.prog.info? 83 = some Try.t83 := by kernel_rfl
theorem inf84 : Try.prog.info? 84 = some Try.t84 := by kernel_rfl
theorem inf85 : Try.prog.info? 85 = some Try.t85 := by kernel_rfl
theorem inf86 : Try.prog.info? 86 = some Try.t86 := by kernel_rfl
theorem inf87 : Try.prog.info? 87 = some Try.t87 := by kernel_rfl
theorem inf88 : Try.prog.info? 88 = some Try.t88 := by kernel_rfl
theorem inf89 : Try.prog.info? 89 = some Try.t89 := by kernel_rfl
theorem inf90 : Try.prog.info? 90 = some Try.t90 := by kernel_rfl
theorem inf91 : Try.prog.info? 91 = some Try.t91 := by kernel_rfl
theorem inf92 : Try.prog.info? 92 = some Try.t92 := by kernel_rfl
theorem inf93 : Try.prog.info? 93 = some Try.t93 := by kernel_rfl
theorem inf94 : Try.prog.info? 94 = some Try.t94 := by kernel_rfl
theorem inf95 : Try.prog.info? 95 = some Try.t95 := by kernel_rfl
theorem inf96 : Try.prog.info? 96 = some Try.t96 := by kernel_rfl
theorem inf97 : Try.prog.info? 97 = some Try.t97 := by kernel_rfl
theorem inf98 : Try.prog.info? 98 = some Try.t98 := by kernel_rfl
theorem inf99 : Try.prog.info? 99 = some Try.t99 := by kernel_rfl
theorem inf100 : Try.prog.info? 100 = some Try.t100 := by kernel_rfl
theorem inf101 : Try.prog.info? 101 = some Try.t101 := by kernel_rfl
theorem inf102 : Try.prog.info? 102 = some Try.t102 := by kernel_rfl
theorem inf103 : Try.prog.info? 103 = some Try.t103 := by kernel_rfl
theorem inf104 : Try.prog.info? 104 = some Try.t104 := by kernel_rfl
theorem inf105 : Try.prog.info? 105 = some Try.t105 := by kernel_rfl
theorem inf106 : Try.prog.info? 106 = some Try.t106 := by kernel_rfl
theorem inf107 : Try.prog.info? 107 = some Try.t107 := by kernel_rfl
theorem inf108 : Try.prog.info? 108 = some Try.t108 := by kernel_rfl
theorem inf109 : Try.prog.info? 109 = some Try.t109 := by kernel_rfl
theorem inf110 : Try.prog.info? 110 = some Try.t110 := by kernel_rfl
theorem inf111 : Try.prog.info? 111 = some Try.t111 := by kernel_rfl
theorem inf112 : Try.prog.info? 112 = some Try.t112 := by kernel_rfl
theorem inf113 : Try.prog.info? 113 = some Try.t113 := by kernel_rfl
theorem inf114 : Try.prog.info? 114 = some Try.t114 := by kernel_rfl
theorem inf115 : Try.prog.info? 115 = some Try.t115 := by kernel_rfl
theorem inf116 : Try.prog.info? 116 = some Try.t116 := by kernel_rfl
theorem inf117 : Try.prog.info? 117 = some Try.t117 := by kernel_rfl
theorem inf118 : Try.prog.info? 118 = some Try.t118 := by kernel_rfl
theorem inf119 : Try.prog.info? 119 = some Try.t119 := by kernel_rfl
theorem inf120 : Try.prog.info? 120 = some Try.t120 := by kernel_rfl
theorem inf121 : Try.prog.info? 121 = some Try.t121 := by kernel_rfl
theorem inf122 : Try.prog.info? 122 = some Try.t122 := by kernel_rfl
theorem inf123 : Try.prog.info? 123 = some Try.t123 := by kernel_rfl
theorem inf124 : Try.prog.info? 124 = some Try.t124 := by kernel_rfl
theorem inf125 : Try.prog.info? 125 = some Try.t125 := by kernel_rfl
theorem inf126 : Try.prog.info? 126 = some Try.t126 := by kernel_rfl
theorem inf127 : Try.prog.info? 127 = some Try.t127 := by kernel_rfl
theorem inf128 : Try.prog.info? 128 = some Try.t128 := by kernel_rfl
theorem inf129 : Try.prog.info? 129 = some Try.t129 := by kernel_rfl
theorem inf130 : Try.prog.info? 130 = some Try.t130 := by kernel_rfl
theorem inf131 : Try.prog.info? 131 = some Try.t131 := by kernel_rfl
theorem inf132 : Try.prog.info? 132 = some Try.t132 := by kernel_rfl
theorem inf133 : Try.prog.info? 133 = some Try.t133 := by kernel_rfl
theorem inf134 : Try.prog.info? 134 = some Try.t134 := by kernel_rfl
theorem inf135 : Try.prog.info? 135 = some Try.t135 := by kernel_rfl
theorem inf136 : Try.prog.info? 136 = some Try.t136 := by kernel_rfl
theorem inf137 : Try.prog.info? 137 = some Try.t137 := by kernel_rfl
theorem inf138 : Try.prog.info? 138 = some Try.t138 := by kernel_rfl
theorem inf139 : Try.prog.info? 139 = some Try.t139 := by kernel_rfl
theorem inf140 : Try.prog.info? 140 = some Try.t140 := by kernel_rfl
theorem inf141 : Try.prog.info? 141 = some Try.t141 := by kernel_rfl
theorem inf142 : Try.prog.info? 142 = some Try.t142 := by kernel_rfl
theorem inf143 : Try.prog.info? 143 = some Try.t143 := by kernel_rfl
theorem inf144 : Try.prog.info? 144 = some Try.t144 := by kernel_rfl
theorem inf145 : Try.prog.info? 145 = some Try.t145 := by kernel_rfl
theorem inf146 : Try.prog.info? 146 = some Try.t146 := by kernel_rfl
theorem inf147 : Try.prog.info? 147 = some Try.t147 := by kernel_rfl
theorem inf148 : Try.prog.info? 148 = some Try.t148 := by kernel_rfl
theorem inf149 : Try.prog.info? 149 = some Try.t149 := by kernel_rfl
theorem inf150 : Try.prog.info? 150 = some Try.t150 := by kernel_rfl
theorem inf151 : Try.prog.info? 151 = some Try.t151 := by kernel_rfl
theorem inf152 : Try.prog.info? 152 = some Try.t152 := by kernel_rfl
theorem inf153 : Try.prog.info? 153 = some Try.t153 := by kernel_rfl
theorem inf154 : Try.prog.info? 154 = some Try.t154 := by kernel_rfl
theorem inf155 : Try.prog.info? 155 = some Try.t155 := by kernel_rfl
theorem inf156 : Try.prog.info? 156 = some Try.t156 := by kernel_rfl
inductive TT where
  | one (n : Nat) (i : TypeInfo)
  | two (m : Nat) (a b : TT)
def TT.look (k : Nat) : TT → Option TypeInfo
  | .one n i => match Nat.beq n k with | true => some i | false => none
  | .two m a b => match Nat.blt k m with | true => TT.look k a | false => TT.look k b
noncomputable def tt : TT := (TT.two 78 (TT.two 39 (TT.two 19 (TT.two 9 (TT.two 4 (TT.two 2 (TT.two 1 (TT.one 0 Try.t0) (TT.one 1 Try.t1)) (TT.two 3 (TT.one 2 Try.t2) (TT.one 3 Try.t3))) (TT.two 6 (TT.two 5 (TT.one 4 Try.t4) (TT.one 5 Try.t5)) (TT.two 7 (TT.one 6 Try.t6) (TT.two 8 (TT.one 7 Try.t7) (TT.one 8 Try.t8))))) (TT.two 14 (TT.two 11 (TT.two 10 (TT.one 9 Try.t9) (TT.one 10 Try.t10)) (TT.two 12 (TT.one 11 Try.t11) (TT.two 13 (TT.one 12 Try.t12) (TT.one 13 Try.t13)))) (TT.two 16 (TT.two 15 (TT.one 14 Try.t14) (TT.one 15 Try.t15)) (TT.two 17 (TT.one 16 Try.t16) (TT.two 18 (TT.one 17 Try.t17) (TT.one 18 Try.t18)))))) (TT.two 29 (TT.two 24 (TT.two 21 (TT.two 20 (TT.one 19 Try.t19) (TT.one 20 Try.t20)) (TT.two 22 (TT.one 21 Try.t21) (TT.two 23 (TT.one 22 Try.t22) (TT.one 23 Try.t23)))) (TT.two 26 (TT.two 25 (TT.one 24 Try.t24) (TT.one 25 Try.t25)) (TT.two 27 (TT.one 26 Try.t26) (TT.two 28 (TT.one 27 Try.t27) (TT.one 28 Try.t28))))) (TT.two 34 (TT.two 31 (TT.two 30 (TT.one 29 Try.t29) (TT.one 30 Try.t30)) (TT.two 32 (TT.one 31 Try.t31) (TT.two 33 (TT.one 32 Try.t32) (TT.one 33 Try.t33)))) (TT.two 36 (TT.two 35 (TT.one 34 Try.t34) (TT.one 35 Try.t35)) (TT.two 37 (TT.one 36 Try.t36) (TT.two 38 (TT.one 37 Try.t37) (TT.one 38 Try.t38))))))) (TT.two 58 (TT.two 48 (TT.two 43 (TT.two 41 (TT.two 40 (TT.one 39 Try.t39) (TT.one 40 Try.t40)) (TT.two 42 (TT.one 41 Try.t41) (TT.one 42 Try.t42))) (TT.two 45 (TT.two 44 (TT.one 43 Try.t43) (TT.one 44 Try.t44)) (TT.two 46 (TT.one 45 Try.t45) (TT.two 47 (TT.one 46 Try.t46) (TT.one 47 Try.t47))))) (TT.two 53 (TT.two 50 (TT.two 49 (TT.one 48 Try.t48) (TT.one 49 Try.t49)) (TT.two 51 (TT.one 50 Try.t50) (TT.two 52 (TT.one 51 Try.t51) (TT.one 52 Try.t52)))) (TT.two 55 (TT.two 54 (TT.one 53 Try.t53) (TT.one 54 Try.t54)) (TT.two 56 (TT.one 55 Try.t55) (TT.two 57 (TT.one 56 Try.t56) (TT.one 57 Try.t57)))))) (TT.two 68 (TT.two 63 (TT.two 60 (TT.two 59 (TT.one 58 Try.t58) (TT.one 59 Try.t59)) (TT.two 61 (TT.one 60 Try.t60) (TT.two 62 (TT.one 61 Try.t61) (TT.one 62 Try.t62)))) (TT.two 65 (TT.two 64 (TT.one 63 Try.t63) (TT.one 64 Try.t64)) (TT.two 66 (TT.one 65 Try.t65) (TT.two 67 (TT.one 66 Try.t66) (TT.one 67 Try.t67))))) (TT.two 73 (TT.two 70 (TT.two 69 (TT.one 68 Try.t68) (TT.one 69 Try.t69)) (TT.two 71 (TT.one 70 Try.t70) (TT.two 72 (TT.one 71 Try.t71) (TT.one 72 Try.t72)))) (TT.two 75 (TT.two 74 (TT.one 73 Try.t73) (TT.one 74 Try.t74)) (TT.two 76 (TT.one 75 Try.t75) (TT.two 77 (TT.one 76 Try.t76) (TT.one 77 Try.t77)))))))) (TT.two 117 (TT.two 97 (TT.two 87 (TT.two 82 (TT.two 80 (TT.two 79 (TT.one 78 Try.t78) (TT.one 79 Try.t79)) (TT.two 81 (TT.one 80 Try.t80) (TT.one 81 Try.t81))) (TT.two 84 (TT.two 83 (TT.one 82 Try.t82) (TT.one 83 Try.t83)) (TT.two 85 (TT.one 84 Try.t84) (TT.two 86 (TT.one 85 Try.t85) (TT.one 86 Try.t86))))) (TT.two 92 (TT.two 89 (TT.two 88 (TT.one 87 Try.t87) (TT.one 88 Try.t88)) (TT.two 90 (TT.one 89 Try.t89) (TT.two 91 (TT.one 90 Try.t90) (TT.one 91 Try.t91)))) (TT.two 94 (TT.two 93 (TT.one 92 Try.t92) (TT.one 93 Try.t93)) (TT.two 95 (TT.one 94 Try.t94) (TT.two 96 (TT.one 95 Try.t95) (TT.one 96 Try.t96)))))) (TT.two 107 (TT.two 102 (TT.two 99 (TT.two 98 (TT.one 97 Try.t97) (TT.one 98 Try.t98)) (TT.two 100 (TT.one 99 Try.t99) (TT.two 101 (TT.one 100 Try.t100) (TT.one 101 Try.t101)))) (TT.two 104 (TT.two 103 (TT.one 102 Try.t102) (TT.one 103 Try.t103)) (TT.two 105 (TT.one 104 Try.t104) (TT.two 106 (TT.one 105 Try.t105) (TT.one 106 Try.t106))))) (TT.two 112 (TT.two 109 (TT.two 108 (TT.one 107 Try.t107) (TT.one 108 Try.t108)) (TT.two 110 (TT.one 109 Try.t109) (TT.two 111 (TT.one 110 Try.t110) (TT.one 111 Try.t111)))) (TT.two 114 (TT.two 113 (TT.one 112 Try.t112) (TT.one 113 Try.t113)) (TT.two 115 (TT.one 114 Try.t114) (TT.two 116 (TT.one 115 Try.t115) (TT.one 116 Try.t116))))))) (TT.two 137 (TT.two 127 (TT.two 122 (TT.two 119 (TT.two 118 (TT.one 117 Try.t117) (TT.one 118 Try.t118)) (TT.two 120 (TT.one 119 Try.t119) (TT.two 121 (TT.one 120 Try.t120) (TT.one 121 Try.t121)))) (TT.two 124 (TT.two 123 (TT.one 122 Try.t122) (TT.one 123 Try.t123)) (TT.two 125 (TT.one 124 Try.t124) (TT.two 126 (TT.one 125 Try.t125) (TT.one 126 Try.t126))))) (TT.two 132 (TT.two 129 (TT.two 128 (TT.one 127 Try.t127) (TT.one 128 Try.t128)) (TT.two 130 (TT.one 129 Try.t129) (TT.two 131 (TT.one 130 Try.t130) (TT.one 131 Try.t131)))) (TT.two 134 (TT.two 133 (TT.one 132 Try.t132) (TT.one 133 Try.t133)) (TT.two 135 (TT.one 134 Try.t134) (TT.two 136 (TT.one 135 Try.t135) (TT.one 136 Try.t136)))))) (TT.two 147 (TT.two 142 (TT.two 139 (TT.two 138 (TT.one 137 Try.t137) (TT.one 138 Try.t138)) (TT.two 140 (TT.one 139 Try.t139) (TT.two 141 (TT.one 140 Try.t140) (TT.one 141 Try.t141)))) (TT.two 144 (TT.two 143 (TT.one 142 Try.t142) (TT.one 143 Try.t143)) (TT.two 145 (TT.one 144 Try.t144) (TT.two 146 (TT.one 145 Try.t145) (TT.one 146 Try.t146))))) (TT.two 152 (TT.two 149 (TT.two 148 (TT.one 147 Try.t147) (TT.one 148 Try.t148)) (TT.two 150 (TT.one 149 Try.t149) (TT.two 151 (TT.one 150 Try.t150) (TT.one 151 Try.t151)))) (TT.two 154 (TT.two 153 (TT.one 152 Try.t152) (TT.one 153 Try.t153)) (TT.two 155 (TT.one 154 Try.t154) (TT.two 156 (TT.one 155 Try.t155) (TT.one 156 Try.t156)))))))))
noncomputable def TB : Tab := fun n => TT.look n tt
def TT.Ok (P : Program) : TT → Prop
  | .one n i => P.info? n = some i
  | .two _ a b => a.Ok P ∧ b.Ok P
theorem TT.ok (P : Program) : ∀ (t : TT), t.Ok P → TabOk P fun k => TT.look k t
  | .one n i, h => fun k j hk => by
    replace hk : TT.look k (.one n i) = some j := hk
    unfold TT.look at hk
    split at hk
    · rename_i e; cases hk; rw [← Nat.eq_of_beq_eq_true e]; exact h
    · cases hk
  | .two m a b, h => fun k j hk => by
    replace hk : TT.look k (.two m a b) = some j := hk
    unfold TT.look at hk
    split at hk
    · exact TT.ok P a h.1 k j hk
    · exact TT.ok P b h.2 k j hk
theorem TB_ok : TabOk Try.prog TB := TT.ok _ tt ⟨⟨⟨⟨⟨⟨⟨inf0, inf1⟩, ⟨inf2, inf3⟩⟩, ⟨⟨inf4, inf5⟩, ⟨inf6, ⟨inf7, inf8⟩⟩⟩⟩, ⟨⟨⟨inf9, inf10⟩, ⟨inf11, ⟨inf12, inf13⟩⟩⟩, ⟨⟨inf14, inf15⟩, ⟨inf16, ⟨inf17, inf18⟩⟩⟩⟩⟩, ⟨⟨⟨⟨inf19, inf20⟩, ⟨inf21, ⟨inf22, inf23⟩⟩⟩, ⟨⟨inf24, inf25⟩, ⟨inf26, ⟨inf27, inf28⟩⟩⟩⟩, ⟨⟨⟨inf29, inf30⟩, ⟨inf31, ⟨inf32, inf33⟩⟩⟩, ⟨⟨inf34, inf35⟩, ⟨inf36, ⟨inf37, inf38⟩⟩⟩⟩⟩⟩, ⟨⟨⟨⟨⟨inf39, inf40⟩, ⟨inf41, inf42⟩⟩, ⟨⟨inf43, inf44⟩, ⟨inf45, ⟨inf46, inf47⟩⟩⟩⟩, ⟨⟨⟨inf48, inf49⟩, ⟨inf50, ⟨inf51, inf52⟩⟩⟩, ⟨⟨inf53, inf54⟩, ⟨inf55, ⟨inf56, inf57⟩⟩⟩⟩⟩, ⟨⟨⟨⟨inf58, inf59⟩, ⟨inf60, ⟨inf61, inf62⟩⟩⟩, ⟨⟨inf63, inf64⟩, ⟨inf65, ⟨inf66, inf67⟩⟩⟩⟩, ⟨⟨⟨inf68, inf69⟩, ⟨inf70, ⟨inf71, inf72⟩⟩⟩, ⟨⟨inf73, inf74⟩, ⟨inf75, ⟨inf76, inf77⟩⟩⟩⟩⟩⟩⟩, ⟨⟨⟨⟨⟨⟨inf78, inf79⟩, ⟨inf80, inf81⟩⟩, ⟨⟨inf82, inf83⟩, ⟨inf84, ⟨inf85, inf86⟩⟩⟩⟩, ⟨⟨⟨inf87, inf88⟩, ⟨inf89, ⟨inf90, inf91⟩⟩⟩, ⟨⟨inf92, inf93⟩, ⟨inf94, ⟨inf95, inf96⟩⟩⟩⟩⟩, ⟨⟨⟨⟨inf97, inf98⟩, ⟨inf99, ⟨inf100, inf101⟩⟩⟩, ⟨⟨inf102, inf103⟩, ⟨inf104, ⟨inf105, inf106⟩⟩⟩⟩, ⟨⟨⟨inf107, inf108⟩, ⟨inf109, ⟨inf110, inf111⟩⟩⟩, ⟨⟨inf112, inf113⟩, ⟨inf114, ⟨inf115, inf116⟩⟩⟩⟩⟩⟩, ⟨⟨⟨⟨⟨inf117, inf118⟩, ⟨inf119, ⟨inf120, inf121⟩⟩⟩, ⟨⟨inf122, inf123⟩, ⟨inf124, ⟨inf125, inf126⟩⟩⟩⟩, ⟨⟨⟨inf127, inf128⟩, ⟨inf129, ⟨inf130, inf131⟩⟩⟩, ⟨⟨inf132, inf133⟩, ⟨inf134, ⟨inf135, inf136⟩⟩⟩⟩⟩, ⟨⟨⟨⟨inf137, inf138⟩, ⟨inf139, ⟨inf140, inf141⟩⟩⟩, ⟨⟨inf142, inf143⟩, ⟨inf144, ⟨inf145, inf146⟩⟩⟩⟩, ⟨⟨⟨inf147, inf148⟩, ⟨inf149, ⟨inf150, inf151⟩⟩⟩, ⟨⟨inf152, inf153⟩, ⟨inf154, ⟨inf155, inf156⟩⟩⟩⟩⟩⟩⟩⟩
end Go.RV
