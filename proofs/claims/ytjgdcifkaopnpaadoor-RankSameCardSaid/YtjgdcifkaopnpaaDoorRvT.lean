/- The table of this seat's types. Conditions: none. -/
import Derived.Test.YtjgdcifkaopnpaaDoorRvM
import Derived.Test.YtjgdcifkaopnpaaDoorProg
import Derived.KernelRfl
namespace Go.RV
open Go Go.Proofs
theorem inf0 : Tryd.prog.info? 0 = some Tryd.t0 := by kernel_rfl
theorem inf1 : Tryd.prog.info? 1 = some Tryd.t1 := by kernel_rfl
theorem inf2 : Tryd.prog.info? 2 = some Tryd.t2 := by kernel_rfl
theorem inf3 : Tryd.prog.info? 3 = some Tryd.t3 := by kernel_rfl
theorem inf4 : Tryd.prog.info? 4 = some Tryd.t4 := by kernel_rfl
theorem inf5 : Tryd.prog.info? 5 = some Tryd.t5 := by kernel_rfl
theorem inf6 : Tryd.prog.info? 6 = some Tryd.t6 := by kernel_rfl
theorem inf7 : Tryd.prog.info? 7 = some Tryd.t7 := by kernel_rfl
theorem inf8 : Tryd.prog.info? 8 = some Tryd.t8 := by kernel_rfl
theorem inf9 : Tryd.prog.info? 9 = some Tryd.t9 := by kernel_rfl
theorem inf10 : Tryd.prog.info? 10 = some Tryd.t10 := by kernel_rfl
theorem inf11 : Tryd.prog.info? 11 = some Tryd.t11 := by kernel_rfl
theorem inf12 : Tryd.prog.info? 12 = some Tryd.t12 := by kernel_rfl
theorem inf13 : Tryd.prog.info? 13 = some Tryd.t13 := by kernel_rfl
theorem inf14 : Tryd.prog.info? 14 = some Tryd.t14 := by kernel_rfl
theorem inf15 : Tryd.prog.info? 15 = some Tryd.t15 := by kernel_rfl
theorem inf16 : Tryd.prog.info? 16 = some Tryd.t16 := by kernel_rfl
theorem inf17 : Tryd.prog.info? 17 = some Tryd.t17 := by kernel_rfl
theorem inf18 : Tryd.prog.info? 18 = some Tryd.t18 := by kernel_rfl
theorem inf19 : Tryd.prog.info? 19 = some Tryd.t19 := by kernel_rfl
theorem inf20 : Tryd.prog.info? 20 = some Tryd.t20 := by kernel_rfl
theorem inf21 : Tryd.prog.info? 21 = some Tryd.t21 := by kernel_rfl
theorem inf22 : Tryd.prog.info? 22 = some Tryd.t22 := by kernel_rfl
theorem inf23 : Tryd.prog.info? 23 = some Tryd.t23 := by kernel_rfl
theorem inf24 : Tryd.prog.info? 24 = some Tryd.t24 := by kernel_rfl
theorem inf25 : Tryd.prog.info? 25 = some Tryd.t25 := by kernel_rfl
theorem inf26 : Tryd.prog.info? 26 = some Tryd.t26 := by kernel_rfl
theorem inf27 : Tryd.prog.info? 27 = some Tryd.t27 := by kernel_rfl
theorem inf28 : Tryd.prog.info? 28 = some Tryd.t28 := by kernel_rfl
theorem inf29 : Tryd.prog.info? 29 = some Tryd.t29 := by kernel_rfl
theorem inf30 : Tryd.prog.info? 30 = some Tryd.t30 := by kernel_rfl
theorem inf31 : Tryd.prog.info? 31 = some Tryd.t31 := by kernel_rfl
theorem inf32 : Tryd.prog.info? 32 = some Tryd.t32 := by kernel_rfl
theorem inf33 : Tryd.prog.info? 33 = some Tryd.t33 := by kernel_rfl
theorem inf34 : Tryd.prog.info? 34 = some Tryd.t34 := by kernel_rfl
theorem inf35 : Tryd.prog.info? 35 = some Tryd.t35 := by kernel_rfl
theorem inf36 : Tryd.prog.info? 36 = some Tryd.t36 := by kernel_rfl
theorem inf37 : Tryd.prog.info? 37 = some Tryd.t37 := by kernel_rfl
theorem inf38 : Tryd.prog.info? 38 = some Tryd.t38 := by kernel_rfl
theorem inf39 : Tryd.prog.info? 39 = some Tryd.t39 := by kernel_rfl
theorem inf40 : Tryd.prog.info? 40 = some Tryd.t40 := by kernel_rfl
theorem inf41 : Tryd.prog.info? 41 = some Tryd.t41 := by kernel_rfl
theorem inf42 : Tryd.prog.info? 42 = some Tryd.t42 := by kernel_rfl
theorem inf43 : Tryd.prog.info? 43 = some Tryd.t43 := by kernel_rfl
theorem inf44 : Tryd.prog.info? 44 = some Tryd.t44 := by kernel_rfl
theorem inf45 : Tryd.prog.info? 45 = some Tryd.t45 := by kernel_rfl
theorem inf46 : Tryd.prog.info? 46 = some Tryd.t46 := by kernel_rfl
theorem inf47 : Tryd.prog.info? 47 = some Tryd.t47 := by kernel_rfl
theorem inf48 : Tryd.prog.info? 48 = some Tryd.t48 := by kernel_rfl
theorem inf49 : Tryd.prog.info? 49 = some Tryd.t49 := by kernel_rfl
theorem inf50 : Tryd.prog.info? 50 = some Tryd.t50 := by kernel_rfl
theorem inf51 : Tryd.prog.info? 51 = some Tryd.t51 := by kernel_rfl
theorem inf52 : Tryd.prog.info? 52 = some Tryd.t52 := by kernel_rfl
theorem inf53 : Tryd.prog.info? 53 = some Tryd.t53 := by kernel_rfl
theorem inf54 : Tryd.prog.info? 54 = some Tryd.t54 := by kernel_rfl
theorem inf55 : Tryd.prog.info? 55 = some Tryd.t55 := by kernel_rfl
theorem inf56 : Tryd.prog.info? 56 = some Tryd.t56 := by kernel_rfl
theorem inf57 : Tryd.prog.info? 57 = some Tryd.t57 := by kernel_rfl
theorem inf58 : Tryd.prog.info? 58 = some Tryd.t58 := by kernel_rfl
theorem inf59 : Tryd.prog.info? 59 = some Tryd.t59 := by kernel_rfl
theorem inf60 : Tryd.prog.info? 60 = some Tryd.t60 := by kernel_rfl
theorem inf61 : Tryd.prog.info? 61 = some Tryd.t61 := by kernel_rfl
theorem inf62 : Tryd.prog.info? 62 = some Tryd.t62 := by kernel_rfl
theorem inf63 : Tryd.prog.info? 63 = some Tryd.t63 := by kernel_rfl
theorem inf64 : Tryd.prog.info? 64 = some Tryd.t64 := by kernel_rfl
theorem inf65 : Tryd.prog.info? 65 = some Tryd.t65 := by kernel_rfl
theorem inf66 : Tryd.prog.info? 66 = some Tryd.t66 := by kernel_rfl
theorem inf67 : Tryd.prog.info? 67 = some Tryd.t67 := by kernel_rfl
theorem inf68 : Tryd.prog.info? 68 = some Tryd.t68 := by kernel_rfl
theorem inf69 : Tryd.prog.info? 69 = some Tryd.t69 := by kernel_rfl
theorem inf70 : Tryd.prog.info? 70 = some Tryd.t70 := by kernel_rfl
theorem inf71 : Tryd.prog.info? 71 = some Tryd.t71 := by kernel_rfl
theorem inf72 : Tryd.prog.info? 72 = some Tryd.t72 := by kernel_rfl
theorem inf73 : Tryd.prog.info? 73 = some Tryd.t73 := by kernel_rfl
theorem inf74 : Tryd.prog.info? 74 = some Tryd.t74 := by kernel_rfl
theorem inf75 : Tryd.prog.info? 75 = some Tryd.t75 := by kernel_rfl
theorem inf76 : Tryd.prog.info? 76 = some Tryd.t76 := by kernel_rfl
theorem inf77 : Tryd.prog.info? 77 = some Tryd.t77 := by kernel_rfl
theorem inf78 : Tryd.prog.info? 78 = some Tryd.t78 := by kernel_rfl
theorem inf79 : Tryd.prog.info? 79 = some Tryd.t79 := by kernel_rfl
theorem inf80 : Tryd.prog.info? 80 = some Tryd.t80 := by kernel_rfl
theorem inf81 : Tryd.prog.info? 81 = some Tryd.t81 := by kernel_rfl
theorem inf82 : Tryd.prog.info? 82 = some Tryd.t82 := by kernel_rfl
theorem inf83 : Tryd.prog.info? 83 = some Tryd.t83 := by kernel_rfl
theorem inf84 : Tryd.prog.info? 84 = some Tryd.t84 := by kernel_rfl
theorem inf85 : Tryd.prog.info? 85 = some Tryd.t85 := by kernel_rfl
theorem inf86 : Tryd.prog.info? 86 = some Tryd.t86 := by kernel_rfl
theorem inf87 : Tryd.prog.info? 87 = some Tryd.t87 := by kernel_rfl
theorem inf88 : Tryd.prog.info? 88 = some Tryd.t88 := by kernel_rfl
theorem inf89 : Tryd.prog.info? 89 = some Tryd.t89 := by kernel_rfl
theorem inf90 : Tryd.prog.info? 90 = some Tryd.t90 := by kernel_rfl
theorem inf91 : Tryd.prog.info? 91 = some Tryd.t91 := by kernel_rfl
theorem inf92 : Tryd.prog.info? 92 = some Tryd.t92 := by kernel_rfl
theorem inf93 : Tryd.prog.info? 93 = some Tryd.t93 := by kernel_rfl
theorem inf94 : Tryd.prog.info? 94 = some Tryd.t94 := by kernel_rfl
theorem inf95 : Tryd.prog.info? 95 = some Tryd.t95 := by kernel_rfl
theorem inf96 : Tryd.prog.info? 96 = some Tryd.t96 := by kernel_rfl
theorem inf97 : Tryd.prog.info? 97 = some Tryd.t97 := by kernel_rfl
theorem inf98 : Tryd.prog.info? 98 = some Tryd.t98 := by kernel_rfl
theorem inf99 : Tryd.prog.info? 99 = some Tryd.t99 := by kernel_rfl
theorem inf100 : Tryd.prog.info? 100 = some Tryd.t100 := by kernel_rfl
theorem inf101 : Tryd.prog.info? 101 = some Tryd.t101 := by kernel_rfl
theorem inf102 : Tryd.prog.info? 102 = some Tryd.t102 := by kernel_rfl
theorem inf103 : Tryd.prog.info? 103 = some Tryd.t103 := by kernel_rfl
theorem inf104 : Tryd.prog.info? 104 = some Tryd.t104 := by kernel_rfl
theorem inf105 : Tryd.prog.info? 105 = some Tryd.t105 := by kernel_rfl
theorem inf106 : Tryd.prog.info? 106 = some Tryd.t106 := by kernel_rfl
theorem inf107 : Tryd.prog.info? 107 = some Tryd.t107 := by kernel_rfl
theorem inf108 : Tryd.prog.info? 108 = some Tryd.t108 := by kernel_rfl
theorem inf109 : Tryd.prog.info? 109 = some Tryd.t109 := by kernel_rfl
theorem inf110 : Tryd.prog.info? 110 = some Tryd.t110 := by kernel_rfl
theorem inf111 : Tryd.prog.info? 111 = some Tryd.t111 := by kernel_rfl
theorem inf112 : Tryd.prog.info? 112 = some Tryd.t112 := by kernel_rfl
theorem inf113 : Tryd.prog.info? 113 = some Tryd.t113 := by kernel_rfl
theorem inf114 : Tryd.prog.info? 114 = some Tryd.t114 := by kernel_rfl
theorem inf115 : Tryd.prog.info? 115 = some Tryd.t115 := by kernel_rfl
theorem inf116 : Tryd.prog.info? 116 = some Tryd.t116 := by kernel_rfl
theorem inf117 : Tryd.prog.info? 117 = some Tryd.t117 := by kernel_rfl
theorem inf118 : Tryd.prog.info? 118 = some Tryd.t118 := by kernel_rfl
theorem inf119 : Tryd.prog.info? 119 = some Tryd.t119 := by kernel_rfl
theorem inf120 : Tryd.prog.info? 120 = some Tryd.t120 := by kernel_rfl
theorem inf121 : Tryd.prog.info? 121 = some Tryd.t121 := by kernel_rfl
theorem inf122 : Tryd.prog.info? 122 = some Tryd.t122 := by kernel_rfl
theorem inf123 : Tryd.prog.info? 123 = some Tryd.t123 := by kernel_rfl
theorem inf124 : Tryd.prog.info? 124 = some Tryd.t124 := by kernel_rfl
theorem inf125 : Tryd.prog.info? 125 = some Tryd.t125 := by kernel_rfl
theorem inf126 : Tryd.prog.info? 126 = some Tryd.t126 := by kernel_rfl
theorem inf127 : Tryd.prog.info? 127 = some Tryd.t127 := by kernel_rfl
theorem inf128 : Tryd.prog.info? 128 = some Tryd.t128 := by kernel_rfl
theorem inf129 : Tryd.prog.info? 129 = some Tryd.t129 := by kernel_rfl
theorem inf130 : Tryd.prog.info? 130 = some Tryd.t130 := by kernel_rfl
theorem inf131 : Tryd.prog.info? 131 = some Tryd.t131 := by kernel_rfl
theorem inf132 : Tryd.prog.info? 132 = some Tryd.t132 := by kernel_rfl
theorem inf133 : Tryd.prog.info? 133 = some Tryd.t133 := by kernel_rfl
theorem inf134 : Tryd.prog.info? 134 = some Tryd.t134 := by kernel_rfl
theorem inf135 : Tryd.prog.info? 135 = some Tryd.t135 := by kernel_rfl
theorem inf136 : Tryd.prog.info? 136 = some Tryd.t136 := by kernel_rfl
theorem inf137 : Tryd.prog.info? 137 = some Tryd.t137 := by kernel_rfl
theorem inf138 : Tryd.prog.info? 138 = some Tryd.t138 := by kernel_rfl
theorem inf139 : Tryd.prog.info? 139 = some Tryd.t139 := by kernel_rfl
theorem inf140 : Tryd.prog.info? 140 = some Tryd.t140 := by kernel_rfl
theorem inf141 : Tryd.prog.info? 141 = some Tryd.t141 := by kernel_rfl
theorem inf142 : Tryd.prog.info? 142 = some Tryd.t142 := by kernel_rfl
theorem inf143 : Tryd.prog.info? 143 = some Tryd.t143 := by kernel_rfl
theorem inf144 : Tryd.prog.info? 144 = some Tryd.t144 := by kernel_rfl
theorem inf145 : Tryd.prog.info? 145 = some Tryd.t145 := by kernel_rfl
theorem inf146 : Tryd.prog.info? 146 = some Tryd.t146 := by kernel_rfl
theorem inf147 : Tryd.prog.info? 147 = some Tryd.t147 := by kernel_rfl
theorem inf148 : Tryd.prog.info? 148 = some Tryd.t148 := by kernel_rfl
theorem inf149 : Tryd.prog.info? 149 = some Tryd.t149 := by kernel_rfl
theorem inf150 : Tryd.prog.info? 150 = some Tryd.t150 := by kernel_rfl
theorem inf151 : Tryd.prog.info? 151 = some Tryd.t151 := by kernel_rfl
theorem inf152 : Tryd.prog.info? 152 = some Tryd.t152 := by kernel_rfl
theorem inf153 : Tryd.prog.info? 153 = some Tryd.t153 := by kernel_rfl
theorem inf154 : Tryd.prog.info? 154 = some Tryd.t154 := by kernel_rfl
theorem inf155 : Tryd.prog.info? 155 = some Tryd.t155 := by kernel_rfl
theorem inf156 : Tryd.prog.info? 156 = some Tryd.t156 := by kernel_rfl
theorem inf157 : Tryd.prog.info? 157 = some Tryd.t157 := by kernel_rfl
theorem inf158 : Tryd.prog.info? 158 = some Tryd.t158 := by kernel_rfl
theorem inf159 : Tryd.prog.info? 159 = some Tryd.t159 := by kernel_rfl
theorem inf160 : Tryd.prog.info? 160 = some Tryd.t160 := by kernel_rfl
theorem inf161 : Tryd.prog.info? 161 = some Tryd.t161 := by kernel_rfl
theorem inf162 : Tryd.prog.info? 162 = some Tryd.t162 := by kernel_rfl
theorem inf163 : Tryd.prog.info? 163 = some Tryd.t163 := by kernel_rfl
theorem inf164 : Tryd.prog.info? 164 = some Tryd.t164 := by kernel_rfl
theorem inf165 : Tryd.prog.info? 165 = some Tryd.t165 := by kernel_rfl
theorem inf166 : Tryd.prog.info? 166 = some Tryd.t166 := by kernel_rfl
theorem inf167 : Tryd.prog.info? 167 = some Tryd.t167 := by kernel_rfl
theorem inf168 : Tryd.prog.info? 168 = some Tryd.t168 := by kernel_rfl
theorem inf169 : Tryd.prog.info? 169 = some Tryd.t169 := by kernel_rfl
theorem inf170 : Tryd.prog.info? 170 = some Tryd.t170 := by kernel_rfl
theorem inf171 : Tryd.prog.info? 171 = some Tryd.t171 := by kernel_rfl
theorem inf172 : Tryd.prog.info? 172 = some Tryd.t172 := by kernel_rfl
theorem inf173 : Tryd.prog.info? 173 = some Tryd.t173 := by kernel_rfl
theorem inf174 : Tryd.prog.info? 174 = some Tryd.t174 := by kernel_rfl
theorem inf175 : Tryd.prog.info? 175 = some Tryd.t175 := by kernel_rfl
theorem inf176 : Tryd.prog.info? 176 = some Tryd.t176 := by kernel_rfl
theorem inf177 : Tryd.prog.info? 177 = some Tryd.t177 := by kernel_rfl
theorem inf178 : Tryd.prog.info? 178 = some Tryd.t178 := by kernel_rfl
theorem inf179 : Tryd.prog.info? 179 = some Tryd.t179 := by kernel_rfl
theorem inf180 : Tryd.prog.info? 180 = some Tryd.t180 := by kernel_rfl
theorem inf181 : Tryd.prog.info? 181 = some Tryd.t181 := by kernel_rfl
theorem inf182 : Tryd.prog.info? 182 = some Tryd.t182 := by kernel_rfl
inductive TT where
  | one (n : Nat) (i : TypeInfo)
  | two (m : Nat) (a b : TT)
def TT.look (k : Nat) : TT → Option TypeInfo
  | .one n i => match Nat.beq n k with | true => some i | false => none
  | .two m a b => match Nat.blt k m with | true => TT.look k a | false => TT.look k b
noncomputable def tt : TT := (TT.two 91 (TT.two 45 (TT.two 22 (TT.two 11 (TT.two 5 (TT.two 2 (TT.two 1 (TT.one 0 Tryd.t0) (TT.one 1 Tryd.t1)) (TT.two 3 (TT.one 2 Tryd.t2) (TT.two 4 (TT.one 3 Tryd.t3) (TT.one 4 Tryd.t4)))) (TT.two 8 (TT.two 6 (TT.one 5 Tryd.t5) (TT.two 7 (TT.one 6 Tryd.t6) (TT.one 7 Tryd.t7))) (TT.two 9 (TT.one 8 Tryd.t8) (TT.two 10 (TT.one 9 Tryd.t9) (TT.one 10 Tryd.t10))))) (TT.two 16 (TT.two 13 (TT.two 12 (TT.one 11 Tryd.t11) (TT.one 12 Tryd.t12)) (TT.two 14 (TT.one 13 Tryd.t13) (TT.two 15 (TT.one 14 Tryd.t14) (TT.one 15 Tryd.t15)))) (TT.two 19 (TT.two 17 (TT.one 16 Tryd.t16) (TT.two 18 (TT.one 17 Tryd.t17) (TT.one 18 Tryd.t18))) (TT.two 20 (TT.one 19 Tryd.t19) (TT.two 21 (TT.one 20 Tryd.t20) (TT.one 21 Tryd.t21)))))) (TT.two 33 (TT.two 27 (TT.two 24 (TT.two 23 (TT.one 22 Tryd.t22) (TT.one 23 Tryd.t23)) (TT.two 25 (TT.one 24 Tryd.t24) (TT.two 26 (TT.one 25 Tryd.t25) (TT.one 26 Tryd.t26)))) (TT.two 30 (TT.two 28 (TT.one 27 Tryd.t27) (TT.two 29 (TT.one 28 Tryd.t28) (TT.one 29 Tryd.t29))) (TT.two 31 (TT.one 30 Tryd.t30) (TT.two 32 (TT.one 31 Tryd.t31) (TT.one 32 Tryd.t32))))) (TT.two 39 (TT.two 36 (TT.two 34 (TT.one 33 Tryd.t33) (TT.two 35 (TT.one 34 Tryd.t34) (TT.one 35 Tryd.t35))) (TT.two 37 (TT.one 36 Tryd.t36) (TT.two 38 (TT.one 37 Tryd.t37) (TT.one 38 Tryd.t38)))) (TT.two 42 (TT.two 40 (TT.one 39 Tryd.t39) (TT.two 41 (TT.one 40 Tryd.t40) (TT.one 41 Tryd.t41))) (TT.two 43 (TT.one 42 Tryd.t42) (TT.two 44 (TT.one 43 Tryd.t43) (TT.one 44 Tryd.t44))))))) (TT.two 68 (TT.two 56 (TT.two 50 (TT.two 47 (TT.two 46 (TT.one 45 Tryd.t45) (TT.one 46 Tryd.t46)) (TT.two 48 (TT.one 47 Tryd.t47) (TT.two 49 (TT.one 48 Tryd.t48) (TT.one 49 Tryd.t49)))) (TT.two 53 (TT.two 51 (TT.one 50 Tryd.t50) (TT.two 52 (TT.one 51 Tryd.t51) (TT.one 52 Tryd.t52))) (TT.two 54 (TT.one 53 Tryd.t53) (TT.two 55 (TT.one 54 Tryd.t54) (TT.one 55 Tryd.t55))))) (TT.two 62 (TT.two 59 (TT.two 57 (TT.one 56 Tryd.t56) (TT.two 58 (TT.one 57 Tryd.t57) (TT.one 58 Tryd.t58))) (TT.two 60 (TT.one 59 Tryd.t59) (TT.two 61 (TT.one 60 Tryd.t60) (TT.one 61 Tryd.t61)))) (TT.two 65 (TT.two 63 (TT.one 62 Tryd.t62) (TT.two 64 (TT.one 63 Tryd.t63) (TT.one 64 Tryd.t64))) (TT.two 66 (TT.one 65 Tryd.t65) (TT.two 67 (TT.one 66 Tryd.t66) (TT.one 67 Tryd.t67)))))) (TT.two 79 (TT.two 73 (TT.two 70 (TT.two 69 (TT.one 68 Tryd.t68) (TT.one 69 Tryd.t69)) (TT.two 71 (TT.one 70 Tryd.t70) (TT.two 72 (TT.one 71 Tryd.t71) (TT.one 72 Tryd.t72)))) (TT.two 76 (TT.two 74 (TT.one 73 Tryd.t73) (TT.two 75 (TT.one 74 Tryd.t74) (TT.one 75 Tryd.t75))) (TT.two 77 (TT.one 76 Tryd.t76) (TT.two 78 (TT.one 77 Tryd.t77) (TT.one 78 Tryd.t78))))) (TT.two 85 (TT.two 82 (TT.two 80 (TT.one 79 Tryd.t79) (TT.two 81 (TT.one 80 Tryd.t80) (TT.one 81 Tryd.t81))) (TT.two 83 (TT.one 82 Tryd.t82) (TT.two 84 (TT.one 83 Tryd.t83) (TT.one 84 Tryd.t84)))) (TT.two 88 (TT.two 86 (TT.one 85 Tryd.t85) (TT.two 87 (TT.one 86 Tryd.t86) (TT.one 87 Tryd.t87))) (TT.two 89 (TT.one 88 Tryd.t88) (TT.two 90 (TT.one 89 Tryd.t89) (TT.one 90 Tryd.t90)))))))) (TT.two 137 (TT.two 114 (TT.two 102 (TT.two 96 (TT.two 93 (TT.two 92 (TT.one 91 Tryd.t91) (TT.one 92 Tryd.t92)) (TT.two 94 (TT.one 93 Tryd.t93) (TT.two 95 (TT.one 94 Tryd.t94) (TT.one 95 Tryd.t95)))) (TT.two 99 (TT.two 97 (TT.one 96 Tryd.t96) (TT.two 98 (TT.one 97 Tryd.t97) (TT.one 98 Tryd.t98))) (TT.two 100 (TT.one 99 Tryd.t99) (TT.two 101 (TT.one 100 Tryd.t100) (TT.one 101 Tryd.t101))))) (TT.two 108 (TT.two 105 (TT.two 103 (TT.one 102 Tryd.t102) (TT.two 104 (TT.one 103 Tryd.t103) (TT.one 104 Tryd.t104))) (TT.two 106 (TT.one 105 Tryd.t105) (TT.two 107 (TT.one 106 Tryd.t106) (TT.one 107 Tryd.t107)))) (TT.two 111 (TT.two 109 (TT.one 108 Tryd.t108) (TT.two 110 (TT.one 109 Tryd.t109) (TT.one 110 Tryd.t110))) (TT.two 112 (TT.one 111 Tryd.t111) (TT.two 113 (TT.one 112 Tryd.t112) (TT.one 113 Tryd.t113)))))) (TT.two 125 (TT.two 119 (TT.two 116 (TT.two 115 (TT.one 114 Tryd.t114) (TT.one 115 Tryd.t115)) (TT.two 117 (TT.one 116 Tryd.t116) (TT.two 118 (TT.one 117 Tryd.t117) (TT.one 118 Tryd.t118)))) (TT.two 122 (TT.two 120 (TT.one 119 Tryd.t119) (TT.two 121 (TT.one 120 Tryd.t120) (TT.one 121 Tryd.t121))) (TT.two 123 (TT.one 122 Tryd.t122) (TT.two 124 (TT.one 123 Tryd.t123) (TT.one 124 Tryd.t124))))) (TT.two 131 (TT.two 128 (TT.two 126 (TT.one 125 Tryd.t125) (TT.two 127 (TT.one 126 Tryd.t126) (TT.one 127 Tryd.t127))) (TT.two 129 (TT.one 128 Tryd.t128) (TT.two 130 (TT.one 129 Tryd.t129) (TT.one 130 Tryd.t130)))) (TT.two 134 (TT.two 132 (TT.one 131 Tryd.t131) (TT.two 133 (TT.one 132 Tryd.t132) (TT.one 133 Tryd.t133))) (TT.two 135 (TT.one 134 Tryd.t134) (TT.two 136 (TT.one 135 Tryd.t135) (TT.one 136 Tryd.t136))))))) (TT.two 160 (TT.two 148 (TT.two 142 (TT.two 139 (TT.two 138 (TT.one 137 Tryd.t137) (TT.one 138 Tryd.t138)) (TT.two 140 (TT.one 139 Tryd.t139) (TT.two 141 (TT.one 140 Tryd.t140) (TT.one 141 Tryd.t141)))) (TT.two 145 (TT.two 143 (TT.one 142 Tryd.t142) (TT.two 144 (TT.one 143 Tryd.t143) (TT.one 144 Tryd.t144))) (TT.two 146 (TT.one 145 Tryd.t145) (TT.two 147 (TT.one 146 Tryd.t146) (TT.one 147 Tryd.t147))))) (TT.two 154 (TT.two 151 (TT.two 149 (TT.one 148 Tryd.t148) (TT.two 150 (TT.one 149 Tryd.t149) (TT.one 150 Tryd.t150))) (TT.two 152 (TT.one 151 Tryd.t151) (TT.two 153 (TT.one 152 Tryd.t152) (TT.one 153 Tryd.t153)))) (TT.two 157 (TT.two 155 (TT.one 154 Tryd.t154) (TT.two 156 (TT.one 155 Tryd.t155) (TT.one 156 Tryd.t156))) (TT.two 158 (TT.one 157 Tryd.t157) (TT.two 159 (TT.one 158 Tryd.t158) (TT.one 159 Tryd.t159)))))) (TT.two 171 (TT.two 165 (TT.two 162 (TT.two 161 (TT.one 160 Tryd.t160) (TT.one 161 Tryd.t161)) (TT.two 163 (TT.one 162 Tryd.t162) (TT.two 164 (TT.one 163 Tryd.t163) (TT.one 164 Tryd.t164)))) (TT.two 168 (TT.two 166 (TT.one 165 Tryd.t165) (TT.two 167 (TT.one 166 Tryd.t166) (TT.one 167 Tryd.t167))) (TT.two 169 (TT.one 168 Tryd.t168) (TT.two 170 (TT.one 169 Tryd.t169) (TT.one 170 Tryd.t170))))) (TT.two 177 (TT.two 174 (TT.two 172 (TT.one 171 Tryd.t171) (TT.two 173 (TT.one 172 Tryd.t172) (TT.one 173 Tryd.t173))) (TT.two 175 (TT.one 174 Tryd.t174) (TT.two 176 (TT.one 175 Tryd.t175) (TT.one 176 Tryd.t176)))) (TT.two 180 (TT.two 178 (TT.one 177 Tryd.t177) (TT.two 179 (TT.one 178 Tryd.t178) (TT.one 179 Tryd.t179))) (TT.two 181 (TT.one 180 Tryd.t180) (TT.two 182 (TT.one 181 Tryd.t181) (TT.one 182 Tryd.t182)))))))))
noncomputable def TB : Tab := fun n => TT.look n tt
def TT.Ok (P : Program) : TT → Prop
  | .one n i => P.info? n = some i
  | .two _ a b => a.Ok P ∧ b.Ok P
theorem TT.ok (P : Program) : ∀ (t : TT), t.Ok P → TabOk P fun k => TT.look k t
  | .one n i, h => fun k j hk => by
    replace hk : TT.look k (.one n i) = some j := hk
    unfold TT.look at hk
    split at hk
    · rename_i e; cases hk; rw [← Nat.eq_of_beq_eq_true e]; exact h
    · cases hk
  | .two m a b, h => fun k j hk => by
    replace hk : TT.look k (.two m a b) = some j := hk
    unfold TT.look at hk
    split at hk
    · exact TT.ok P a h.1 k j hk
    · exact TT.ok P b h.2 k j hk
theorem TB_ok : TabOk Tryd.prog TB := TT.ok _ tt ⟨⟨⟨⟨⟨⟨⟨inf0, inf1⟩, ⟨inf2, ⟨inf3, inf4⟩⟩⟩, ⟨⟨inf5, ⟨inf6, inf7⟩⟩, ⟨inf8, ⟨inf9, inf10⟩⟩⟩⟩, ⟨⟨⟨inf11, inf12⟩, ⟨inf13, ⟨inf14, inf15⟩⟩⟩, ⟨⟨inf16, ⟨inf17, inf18⟩⟩, ⟨inf19, ⟨inf20, inf21⟩⟩⟩⟩⟩, ⟨⟨⟨⟨inf22, inf23⟩, ⟨inf24, ⟨inf25, inf26⟩⟩⟩, ⟨⟨inf27, ⟨inf28, inf29⟩⟩, ⟨inf30, ⟨inf31, inf32⟩⟩⟩⟩, ⟨⟨⟨inf33, ⟨inf34, inf35⟩⟩, ⟨inf36, ⟨inf37, inf38⟩⟩⟩, ⟨⟨inf39, ⟨inf40, inf41⟩⟩, ⟨inf42, ⟨inf43, inf44⟩⟩⟩⟩⟩⟩, ⟨⟨⟨⟨⟨inf45, inf46⟩, ⟨inf47, ⟨inf48, inf49⟩⟩⟩, ⟨⟨inf50, ⟨inf51, inf52⟩⟩, ⟨inf53, ⟨inf54, inf55⟩⟩⟩⟩, ⟨⟨⟨inf56, ⟨inf57, inf58⟩⟩, ⟨inf59, ⟨inf60, inf61⟩⟩⟩, ⟨⟨inf62, ⟨inf63, inf64⟩⟩, ⟨inf65, ⟨inf66, inf67⟩⟩⟩⟩⟩, ⟨⟨⟨⟨inf68, inf69⟩, ⟨inf70, ⟨inf71, inf72⟩⟩⟩, ⟨⟨inf73, ⟨inf74, inf75⟩⟩, ⟨inf76, ⟨inf77, inf78⟩⟩⟩⟩, ⟨⟨⟨inf79, ⟨inf80, inf81⟩⟩, ⟨inf82, ⟨inf83, inf84⟩⟩⟩, ⟨⟨inf85, ⟨inf86, inf87⟩⟩, ⟨inf88, ⟨inf89, inf90⟩⟩⟩⟩⟩⟩⟩, ⟨⟨⟨⟨⟨⟨inf91, inf92⟩, ⟨inf93, ⟨inf94, inf95⟩⟩⟩, ⟨⟨inf96, ⟨inf97, inf98⟩⟩, ⟨inf99, ⟨inf100, inf101⟩⟩⟩⟩, ⟨⟨⟨inf102, ⟨inf103, inf104⟩⟩, ⟨inf105, ⟨inf106, inf107⟩⟩⟩, ⟨⟨inf108, ⟨inf109, inf110⟩⟩, ⟨inf111, ⟨inf112, inf113⟩⟩⟩⟩⟩, ⟨⟨⟨⟨inf114, inf115⟩, ⟨inf116, ⟨inf117, inf118⟩⟩⟩, ⟨⟨inf119, ⟨inf120, inf121⟩⟩, ⟨inf122, ⟨inf123, inf124⟩⟩⟩⟩, ⟨⟨⟨inf125, ⟨inf126, inf127⟩⟩, ⟨inf128, ⟨inf129, inf130⟩⟩⟩, ⟨⟨inf131, ⟨inf132, inf133⟩⟩, ⟨inf134, ⟨inf135, inf136⟩⟩⟩⟩⟩⟩, ⟨⟨⟨⟨⟨inf137, inf138⟩, ⟨inf139, ⟨inf140, inf141⟩⟩⟩, ⟨⟨inf142, ⟨inf143, inf144⟩⟩, ⟨inf145, ⟨inf146, inf147⟩⟩⟩⟩, ⟨⟨⟨inf148, ⟨inf149, inf150⟩⟩, ⟨inf151, ⟨inf152, inf153⟩⟩⟩, ⟨⟨inf154, ⟨inf155, inf156⟩⟩, ⟨inf157, ⟨inf158, inf159⟩⟩⟩⟩⟩, ⟨⟨⟨⟨inf160, inf161⟩, ⟨inf162, ⟨inf163, inf164⟩⟩⟩, ⟨⟨inf165, ⟨inf166, inf167⟩⟩, ⟨inf168, ⟨inf169, inf170⟩⟩⟩⟩, ⟨⟨⟨inf171, ⟨inf172, inf173⟩⟩, ⟨inf174, ⟨inf175, inf176⟩⟩⟩, ⟨⟨inf177, ⟨inf178, inf179⟩⟩, ⟨inf180, ⟨inf181, inf182⟩⟩⟩⟩⟩⟩⟩⟩
end Go.RV
