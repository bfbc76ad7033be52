/- The table of this seat's types. Conditions: none. -/
import Derived.Test.YtnhlpmnehdackaaGreatRvM
import Derived.Test.YtnhlpmnehdackaaGreatProg
import Derived.KernelRfl
namespace Go.RV
open Go Go.Proofs
theorem inf0 : Tryz.prog.info? 0 = some Tryz.t0 := by kernel_rfl
theorem inf1 : Tryz.prog.info? 1 = some Tryz.t1 := by kernel_rfl
theorem inf2 : Tryz.prog.info? 2 = some Tryz.t2 := by kernel_rfl
theorem inf3 : Tryz.prog.info? 3 = some Tryz.t3 := by kernel_rfl
theorem inf4 : Tryz.prog.info? 4 = some Tryz.t4 := by kernel_rfl
theorem inf5 : Tryz.prog.info? 5 = some Tryz.t5 := by kernel_rfl
theorem inf6 : Tryz.prog.info? 6 = some Tryz.t6 := by kernel_rfl
theorem inf7 : Tryz.prog.info? 7 = some Tryz.t7 := by kernel_rfl
theorem inf8 : Tryz.prog.info? 8 = some Tryz.t8 := by kernel_rfl
theorem inf9 : Tryz.prog.info? 9 = some Tryz.t9 := by kernel_rfl
theorem inf10 : Tryz.prog.info? 10 = some Tryz.t10 := by kernel_rfl
theorem inf11 : Tryz.prog.info? 11 = some Tryz.t11 := by kernel_rfl
theorem inf12 : Tryz.prog.info? 12 = some Tryz.t12 := by kernel_rfl
theorem inf13 : Tryz.prog.info? 13 = some Tryz.t13 := by kernel_rfl
theorem inf14 : Tryz.prog.info? 14 = some Tryz.t14 := by kernel_rfl
theorem inf15 : Tryz.prog.info? 15 = some Tryz.t15 := by kernel_rfl
theorem inf16 : Tryz.prog.info? 16 = some Tryz.t16 := by kernel_rfl
theorem inf17 : Tryz.prog.info? 17 = some Tryz.t17 := by kernel_rfl
theorem inf18 : Tryz.prog.info? 18 = some Tryz.t18 := by kernel_rfl
theorem inf19 : Tryz.prog.info? 19 = some Tryz.t19 := by kernel_rfl
theorem inf20 : Tryz.prog.info? 20 = some Tryz.t20 := by kernel_rfl
theorem inf21 : Tryz.prog.info? 21 = some Tryz.t21 := by kernel_rfl
theorem inf22 : Tryz.prog.info? 22 = some Tryz.t22 := by kernel_rfl
theorem inf23 : Tryz.prog.info? 23 = some Tryz.t23 := by kernel_rfl
theorem inf24 : Tryz.prog.info? 24 = some Tryz.t24 := by kernel_rfl
theorem inf25 : Tryz.prog.info? 25 = some Tryz.t25 := by kernel_rfl
theorem inf26 : Tryz.prog.info? 26 = some Tryz.t26 := by kernel_rfl
theorem inf27 : Tryz.prog.info? 27 = some Tryz.t27 := by kernel_rfl
theorem inf28 : Tryz.prog.info? 28 = some Tryz.t28 := by kernel_rfl
theorem inf29 : Tryz.prog.info? 29 = some Tryz.t29 := by kernel_rfl
theorem inf30 : Tryz.prog.info? 30 = some Tryz.t30 := by kernel_rfl
theorem inf31 : Tryz.prog.info? 31 = some Tryz.t31 := by kernel_rfl
theorem inf32 : Tryz.prog.info? 32 = some Tryz.t32 := by kernel_rfl
theorem inf33 : Tryz.prog.info? 33 = some Tryz.t33 := by kernel_rfl
theorem inf34 : Tryz.prog.info? 34 = some Tryz.t34 := by kernel_rfl
theorem inf35 : Tryz.prog.info? 35 = some Tryz.t35 := by kernel_rfl
theorem inf36 : Tryz.prog.info? 36 = some Tryz.t36 := by kernel_rfl
theorem inf37 : Tryz.prog.info? 37 = some Tryz.t37 := by kernel_rfl
theorem inf38 : Tryz.prog.info? 38 = some Tryz.t38 := by kernel_rfl
theorem inf39 : Tryz.prog.info? 39 = some Tryz.t39 := by kernel_rfl
theorem inf40 : Tryz.prog.info? 40 = some Tryz.t40 := by kernel_rfl
theorem inf41 : Tryz.prog.info? 41 = some Tryz.t41 := by kernel_rfl
theorem inf42 : Tryz.prog.info? 42 = some Tryz.t42 := by kernel_rfl
theorem inf43 : Tryz.prog.info? 43 = some Tryz.t43 := by kernel_rfl
theorem inf44 : Tryz.prog.info? 44 = some Tryz.t44 := by kernel_rfl
theorem inf45 : Tryz.prog.info? 45 = some Tryz.t45 := by kernel_rfl
theorem inf46 : Tryz.prog.info? 46 = some Tryz.t46 := by kernel_rfl
theorem inf47 : Tryz.prog.info? 47 = some Tryz.t47 := by kernel_rfl
theorem inf48 : Tryz.prog.info? 48 = some Tryz.t48 := by kernel_rfl
theorem inf49 : Tryz.prog.info? 49 = some Tryz.t49 := by kernel_rfl
theorem inf50 : Tryz.prog.info? 50 = some Tryz.t50 := by kernel_rfl
theorem inf51 : Tryz.prog.info? 51 = some Tryz.t51 := by kernel_rfl
theorem inf52 : Tryz.prog.info? 52 = some Tryz.t52 := by kernel_rfl
theorem inf53 : Tryz.prog.info? 53 = some Tryz.t53 := by kernel_rfl
theorem inf54 : Tryz.prog.info? 54 = some Tryz.t54 := by kernel_rfl
theorem inf55 : Tryz.prog.info? 55 = some Tryz.t55 := by kernel_rfl
theorem inf56 : Tryz.prog.info? 56 = some Tryz.t56 := by kernel_rfl
theorem inf57 : Tryz.prog.info? 57 = some Tryz.t57 := by kernel_rfl
theorem inf58 : Tryz.prog.info? 58 = some Tryz.t58 := by kernel_rfl
theorem inf59 : Tryz.prog.info? 59 = some Tryz.t59 := by kernel_rfl
theorem inf60 : Tryz.prog.info? 60 = some Tryz.t60 := by kernel_rfl
theorem inf61 : Tryz.prog.info? 61 = some Tryz.t61 := by kernel_rfl
theorem inf62 : Tryz.prog.info? 62 = some Tryz.t62 := by kernel_rfl
theorem inf63 : Tryz.prog.info? 63 = some Tryz.t63 := by kernel_rfl
theorem inf64 : Tryz.prog.info? 64 = some Tryz.t64 := by kernel_rfl
theorem inf65 : Tryz.prog.info? 65 = some Tryz.t65 := by kernel_rfl
theorem inf66 : Tryz.prog.info? 66 = some Tryz.t66 := by kernel_rfl
theorem inf67 : Tryz.prog.info? 67 = some Tryz.t67 := by kernel_rfl
theorem inf68 : Tryz.prog.info? 68 = some Tryz.t68 := by kernel_rfl
theorem inf69 : Tryz.prog.info? 69 = some Tryz.t69 := by kernel_rfl
theorem inf70 : Tryz.prog.info? 70 = some Tryz.t70 := by kernel_rfl
theorem inf71 : Tryz.prog.info? 71 = some Tryz.t71 := by kernel_rfl
theorem inf72 : Tryz.prog.info? 72 = some Tryz.t72 := by kernel_rfl
theorem inf73 : Tryz.prog.info? 73 = some Tryz.t73 := by kernel_rfl
theorem inf74 : Tryz.prog.info? 74 = some Tryz.t74 := by kernel_rfl
theorem inf75 : Tryz.prog.info? 75 = some Tryz.t75 := by kernel_rfl
theorem inf76 : Tryz.prog.info? 76 = some Tryz.t76 := by kernel_rfl
theorem inf77 : Tryz.prog.info? 77 = some Tryz.t77 := by kernel_rfl
theorem inf78 : Tryz.prog.info? 78 = some Tryz.t78 := by kernel_rfl
theorem inf79 : Tryz.prog.info? 79 = some Tryz.t79 := by kernel_rfl
theorem inf80 : Tryz.prog.info? 80 = some Tryz.t80 := by kernel_rfl
theorem inf81 : Tryz.prog.info? 81 = some Tryz.t81 := by kernel_rfl
theorem inf82 : Tryz.prog.info? 82 = some Tryz.t82 := by kernel_rfl
theorem inf83 : Tryz.prog.info? 83 = some Tryz.t83 := by kernel_rfl
theorem inf84 : Tryz.prog.info? 84 = some Tryz.t84 := by kernel_rfl
theorem inf85 : Tryz.prog.info? 85 = some Tryz.t85 := by kernel_rfl
theorem inf86 : Tryz.prog.info? 86 = some Tryz.t86 := by kernel_rfl
theorem inf87 : Tryz.prog.info? 87 = some Tryz.t87 := by kernel_rfl
theorem inf88 : Tryz.prog.info? 88 = some Tryz.t88 := by kernel_rfl
theorem inf89 : Tryz.prog.info? 89 = some Tryz.t89 := by kernel_rfl
theorem inf90 : Tryz.prog.info? 90 = some Tryz.t90 := by kernel_rfl
theorem inf91 : Tryz.prog.info? 91 = some Tryz.t91 := by kernel_rfl
theorem inf92 : Tryz.prog.info? 92 = some Tryz.t92 := by kernel_rfl
theorem inf93 : Tryz.prog.info? 93 = some Tryz.t93 := by kernel_rfl
theorem inf94 : Tryz.prog.info? 94 = some Tryz.t94 := by kernel_rfl
theorem inf95 : Tryz.prog.info? 95 = some Tryz.t95 := by kernel_rfl
theorem inf96 : Tryz.prog.info? 96 = some Tryz.t96 := by kernel_rfl
theorem inf97 : Tryz.prog.info? 97 = some Tryz.t97 := by kernel_rfl
theorem inf98 : Tryz.prog.info? 98 = some Tryz.t98 := by kernel_rfl
theorem inf99 : Tryz.prog.info? 99 = some Tryz.t99 := by kernel_rfl
theorem inf100 : Tryz.prog.info? 100 = some Tryz.t100 := by kernel_rfl
theorem inf101 : Tryz.prog.info? 101 = some Tryz.t101 := by kernel_rfl
theorem inf102 : Tryz.prog.info? 102 = some Tryz.t102 := by kernel_rfl
theorem inf103 : Tryz.prog.info? 103 = some Tryz.t103 := by kernel_rfl
theorem inf104 : Tryz.prog.info? 104 = some Tryz.t104 := by kernel_rfl
theorem inf105 : Tryz.prog.info? 105 = some Tryz.t105 := by kernel_rfl
theorem inf106 : Tryz.prog.info? 106 = some Tryz.t106 := by kernel_rfl
theorem inf107 : Tryz.prog.info? 107 = some Tryz.t107 := by kernel_rfl
theorem inf108 : Tryz.prog.info? 108 = some Tryz.t108 := by kernel_rfl
theorem inf109 : Tryz.prog.info? 109 = some Tryz.t109 := by kernel_rfl
theorem inf110 : Tryz.prog.info? 110 = some Tryz.t110 := by kernel_rfl
theorem inf111 : Tryz.prog.info? 111 = some Tryz.t111 := by kernel_rfl
theorem inf112 : Tryz.prog.info? 112 = some Tryz.t112 := by kernel_rfl
theorem inf113 : Tryz.prog.info? 113 = some Tryz.t113 := by kernel_rfl
theorem inf114 : Tryz.prog.info? 114 = some Tryz.t114 := by kernel_rfl
theorem inf115 : Tryz.prog.info? 115 = some Tryz.t115 := by kernel_rfl
theorem inf116 : Tryz.prog.info? 116 = some Tryz.t116 := by kernel_rfl
theorem inf117 : Tryz.prog.info? 117 = some Tryz.t117 := by kernel_rfl
theorem inf118 : Tryz.prog.info? 118 = some Tryz.t118 := by kernel_rfl
theorem inf119 : Tryz.prog.info? 119 = some Tryz.t119 := by kernel_rfl
theorem inf120 : Tryz.prog.info? 120 = some Tryz.t120 := by kernel_rfl
theorem inf121 : Tryz.prog.info? 121 = some Tryz.t121 := by kernel_rfl
theorem inf122 : Tryz.prog.info? 122 = some Tryz.t122 := by kernel_rfl
theorem inf123 : Tryz.prog.info? 123 = some Tryz.t123 := by kernel_rfl
theorem inf124 : Tryz.prog.info? 124 = some Tryz.t124 := by kernel_rfl
theorem inf125 : Tryz.prog.info? 125 = some Tryz.t125 := by kernel_rfl
theorem inf126 : Tryz.prog.info? 126 = some Tryz.t126 := by kernel_rfl
theorem inf127 : Tryz.prog.info? 127 = some Tryz.t127 := by kernel_rfl
theorem inf128 : Tryz.prog.info? 128 = some Tryz.t128 := by kernel_rfl
theorem inf129 : Tryz.prog.info? 129 = some Tryz.t129 := by kernel_rfl
theorem inf130 : Tryz.prog.info? 130 = some Tryz.t130 := by kernel_rfl
theorem inf131 : Tryz.prog.info? 131 = some Tryz.t131 := by kernel_rfl
theorem inf132 : Tryz.prog.info? 132 = some Tryz.t132 := by kernel_rfl
theorem inf133 : Tryz.prog.info? 133 = some Tryz.t133 := by kernel_rfl
theorem inf134 : Tryz.prog.info? 134 = some Tryz.t134 := by kernel_rfl
theorem inf135 : Tryz.prog.info? 135 = some Tryz.t135 := by kernel_rfl
theorem inf136 : Tryz.prog.info? 136 = some Tryz.t136 := by kernel_rfl
theorem inf137 : Tryz.prog.info? 137 = some Tryz.t137 := by kernel_rfl
theorem inf138 : Tryz.prog.info? 138 = some Tryz.t138 := by kernel_rfl
theorem inf139 : Tryz.prog.info? 139 = some Tryz.t139 := by kernel_rfl
theorem inf140 : Tryz.prog.info? 140 = some Tryz.t140 := by kernel_rfl
theorem inf141 : Tryz.prog.info? 141 = some Tryz.t141 := by kernel_rfl
theorem inf142 : Tryz.prog.info? 142 = some Tryz.t142 := by kernel_rfl
theorem inf143 : Tryz.prog.info? 143 = some Tryz.t143 := by kernel_rfl
theorem inf144 : Tryz.prog.info? 144 = some Tryz.t144 := by kernel_rfl
theorem inf145 : Tryz.prog.info? 145 = some Tryz.t145 := by kernel_rfl
theorem inf146 : Tryz.prog.info? 146 = some Tryz.t146 := by kernel_rfl
theorem inf147 : Tryz.prog.info? 147 = some Tryz.t147 := by kernel_rfl
theorem inf148 : Tryz.prog.info? 148 = some Tryz.t148 := by kernel_rfl
theorem inf149 : Tryz.prog.info? 149 = some Tryz.t149 := by kernel_rfl
theorem inf150 : Tryz.prog.info? 150 = some Tryz.t150 := by kernel_rfl
theorem inf151 : Tryz.prog.info? 151 = some Tryz.t151 := by kernel_rfl
theorem inf152 : Tryz.prog.info? 152 = some Tryz.t152 := by kernel_rfl
theorem inf153 : Tryz.prog.info? 153 = some Tryz.t153 := by kernel_rfl
theorem inf154 : Tryz.prog.info? 154 = some Tryz.t154 := by kernel_rfl
theorem inf155 : Tryz.prog.info? 155 = some Tryz.t155 := by kernel_rfl
theorem inf156 : Tryz.prog.info? 156 = some Tryz.t156 := by kernel_rfl
theorem inf157 : Tryz.prog.info? 157 = some Tryz.t157 := by kernel_rfl
theorem inf158 : Tryz.prog.info? 158 = some Tryz.t158 := by kernel_rfl
theorem inf159 : Tryz.prog.info? 159 = some Tryz.t159 := by kernel_rfl
theorem inf160 : Tryz.prog.info? 160 = some Tryz.t160 := by kernel_rfl
theorem inf161 : Tryz.prog.info? 161 = some Tryz.t161 := by kernel_rfl
theorem inf162 : Tryz.prog.info? 162 = some Tryz.t162 := by kernel_rfl
theorem inf163 : Tryz.prog.info? 163 = some Tryz.t163 := by kernel_rfl
theorem inf164 : Tryz.prog.info? 164 = some Tryz.t164 := by kernel_rfl
theorem inf165 : Tryz.prog.info? 165 = some Tryz.t165 := by kernel_rfl
theorem inf166 : Tryz.prog.info? 166 = some Tryz.t166 := by kernel_rfl
theorem inf167 : Tryz.prog.info? 167 = some Tryz.t167 := by kernel_rfl
theorem inf168 : Tryz.prog.info? 168 = some Tryz.t168 := by kernel_rfl
theorem inf169 : Tryz.prog.info? 169 = some Tryz.t169 := by kernel_rfl
theorem inf170 : Tryz.prog.info? 170 = some Tryz.t170 := by kernel_rfl
theorem inf171 : Tryz.prog.info? 171 = some Tryz.t171 := by kernel_rfl
theorem inf172 : Tryz.prog.info? 172 = some Tryz.t172 := by kernel_rfl
theorem inf173 : Tryz.prog.info? 173 = some Tryz.t173 := by kernel_rfl
theorem inf174 : Tryz.prog.info? 174 = some Tryz.t174 := by kernel_rfl
theorem inf175 : Tryz.prog.info? 175 = some Tryz.t175 := by kernel_rfl
theorem inf176 : Tryz.prog.info? 176 = some Tryz.t176 := by kernel_rfl
theorem inf177 : Tryz.prog.info? 177 = some Tryz.t177 := by kernel_rfl
theorem inf178 : Tryz.prog.info? 178 = some Tryz.t178 := by kernel_rfl
theorem inf179 : Tryz.prog.info? 179 = some Tryz.t179 := by kernel_rfl
theorem inf180 : Tryz.prog.info? 180 = some Tryz.t180 := by kernel_rfl
theorem inf181 : Tryz.prog.info? 181 = some Tryz.t181 := by kernel_rfl
theorem inf182 : Tryz.prog.info? 182 = some Tryz.t182 := by kernel_rfl
theorem inf183 : Tryz.prog.info? 183 = some Tryz.t183 := by kernel_rfl
theorem inf184 : Tryz.prog.info? 184 = some Tryz.t184 := by kernel_rfl
theorem inf185 : Tryz.prog.info? 185 = some Tryz.t185 := by kernel_rfl
theorem inf186 : Tryz.prog.info? 186 = some Tryz.t186 := by kernel_rfl
theorem inf187 : Tryz.prog.info? 187 = some Tryz.t187 := by kernel_rfl
theorem inf188 : Tryz.prog.info? 188 = some Tryz.t188 := by kernel_rfl
theorem inf189 : Tryz.prog.info? 189 = some Tryz.t189 := by kernel_rfl
theorem inf190 : Tryz.prog.info? 190 = some Tryz.t190 := by kernel_rfl
theorem inf191 : Tryz.prog.info? 191 = some Tryz.t191 := by kernel_rfl
theorem inf192 : Tryz.prog.info? 192 = some Tryz.t192 := by kernel_rfl
theorem inf193 : Tryz.prog.info? 193 = some Tryz.t193 := by kernel_rfl
theorem inf194 : Tryz.prog.info? 194 = some Tryz.t194 := by kernel_rfl
theorem inf195 : Tryz.prog.info? 195 = some Tryz.t195 := by kernel_rfl
theorem inf196 : Tryz.prog.info? 196 = some Tryz.t196 := by kernel_rfl
theorem inf197 : Tryz.prog.info? 197 = some Tryz.t197 := by kernel_rfl
theorem inf198 : Tryz.prog.info? 198 = some Tryz.t198 := by kernel_rfl
theorem inf199 : Tryz.prog.info? 199 = some Tryz.t199 := by kernel_rfl
theorem inf200 : Tryz.prog.info? 200 = some Tryz.t200 := by kernel_rfl
theorem inf201 : Tryz.prog.info? 201 = some Tryz.t201 := by kernel_rfl
theorem inf202 : Tryz.prog.info? 202 = some Tryz.t202 := by kernel_rfl
theorem inf203 : Tryz.prog.info? 203 = some Tryz.t203 := by kernel_rfl
theorem inf204 : Tryz.prog.info? 204 = some Tryz.t204 := by kernel_rfl
theorem inf205 : Tryz.prog.info? 205 = some Tryz.t205 := by kernel_rfl
theorem inf206 : Tryz.prog.info? 206 = some Tryz.t206 := by kernel_rfl
inductive TT where
  | one (n : Nat) (i : TypeInfo)
  | two (m : Nat) (a b : TT)
def TT.look (k : Nat) : TT → Option TypeInfo
  | .one n i => match Nat.beq n k with | true => some i | false => none
  | .two m a b => match Nat.blt k m with | true => TT.look k a | false => TT.look k b
noncomputable def tt : TT := (TT.two 103 (TT.two 51 (TT.two 25 (TT.two 12 (TT.two 6 (TT.two 3 (TT.two 1 (TT.one 0 Tryz.t0) (TT.two 2 (TT.one 1 Tryz.t1) (TT.one 2 Tryz.t2))) (TT.two 4 (TT.one 3 Tryz.t3) (TT.two 5 (TT.one 4 Tryz.t4) (TT.one 5 Tryz.t5)))) (TT.two 9 (TT.two 7 (TT.one 6 Tryz.t6) (TT.two 8 (TT.one 7 Tryz.t7) (TT.one 8 Tryz.t8))) (TT.two 10 (TT.one 9 Tryz.t9) (TT.two 11 (TT.one 10 Tryz.t10) (TT.one 11 Tryz.t11))))) (TT.two 18 (TT.two 15 (TT.two 13 (TT.one 12 Tryz.t12) (TT.two 14 (TT.one 13 Tryz.t13) (TT.one 14 Tryz.t14))) (TT.two 16 (TT.one 15 Tryz.t15) (TT.two 17 (TT.one 16 Tryz.t16) (TT.one 17 Tryz.t17)))) (TT.two 21 (TT.two 19 (TT.one 18 Tryz.t18) (TT.two 20 (TT.one 19 Tryz.t19) (TT.one 20 Tryz.t20))) (TT.two 23 (TT.two 22 (TT.one 21 Tryz.t21) (TT.one 22 Tryz.t22)) (TT.two 24 (TT.one 23 Tryz.t23) (TT.one 24 Tryz.t24)))))) (TT.two 38 (TT.two 31 (TT.two 28 (TT.two 26 (TT.one 25 Tryz.t25) (TT.two 27 (TT.one 26 Tryz.t26) (TT.one 27 Tryz.t27))) (TT.two 29 (TT.one 28 Tryz.t28) (TT.two 30 (TT.one 29 Tryz.t29) (TT.one 30 Tryz.t30)))) (TT.two 34 (TT.two 32 (TT.one 31 Tryz.t31) (TT.two 33 (TT.one 32 Tryz.t32) (TT.one 33 Tryz.t33))) (TT.two 36 (TT.two 35 (TT.one 34 Tryz.t34) (TT.one 35 Tryz.t35)) (TT.two 37 (TT.one 36 Tryz.t36) (TT.one 37 Tryz.t37))))) (TT.two 44 (TT.two 41 (TT.two 39 (TT.one 38 Tryz.t38) (TT.two 40 (TT.one 39 Tryz.t39) (TT.one 40 Tryz.t40))) (TT.two 42 (TT.one 41 Tryz.t41) (TT.two 43 (TT.one 42 Tryz.t42) (TT.one 43 Tryz.t43)))) (TT.two 47 (TT.two 45 (TT.one 44 Tryz.t44) (TT.two 46 (TT.one 45 Tryz.t45) (TT.one 46 Tryz.t46))) (TT.two 49 (TT.two 48 (TT.one 47 Tryz.t47) (TT.one 48 Tryz.t48)) (TT.two 50 (TT.one 49 Tryz.t49) (TT.one 50 Tryz.t50))))))) (TT.two 77 (TT.two 64 (TT.two 57 (TT.two 54 (TT.two 52 (TT.one 51 Tryz.t51) (TT.two 53 (TT.one 52 Tryz.t52) (TT.one 53 Tryz.t53))) (TT.two 55 (TT.one 54 Tryz.t54) (TT.two 56 (TT.one 55 Tryz.t55) (TT.one 56 Tryz.t56)))) (TT.two 60 (TT.two 58 (TT.one 57 Tryz.t57) (TT.two 59 (TT.one 58 Tryz.t58) (TT.one 59 Tryz.t59))) (TT.two 62 (TT.two 61 (TT.one 60 Tryz.t60) (TT.one 61 Tryz.t61)) (TT.two 63 (TT.one 62 Tryz.t62) (TT.one 63 Tryz.t63))))) (TT.two 70 (TT.two 67 (TT.two 65 (TT.one 64 Tryz.t64) (TT.two 66 (TT.one 65 Tryz.t65) (TT.one 66 Tryz.t66))) (TT.two 68 (TT.one 67 Tryz.t67) (TT.two 69 (TT.one 68 Tryz.t68) (TT.one 69 Tryz.t69)))) (TT.two 73 (TT.two 71 (TT.one 70 Tryz.t70) (TT.two 72 (TT.one 71 Tryz.t71) (TT.one 72 Tryz.t72))) (TT.two 75 (TT.two 74 (TT.one 73 Tryz.t73) (TT.one 74 Tryz.t74)) (TT.two 76 (TT.one 75 Tryz.t75) (TT.one 76 Tryz.t76)))))) (TT.two 90 (TT.two 83 (TT.two 80 (TT.two 78 (TT.one 77 Tryz.t77) (TT.two 79 (TT.one 78 Tryz.t78) (TT.one 79 Tryz.t79))) (TT.two 81 (TT.one 80 Tryz.t80) (TT.two 82 (TT.one 81 Tryz.t81) (TT.one 82 Tryz.t82)))) (TT.two 86 (TT.two 84 (TT.one 83 Tryz.t83) (TT.two 85 (TT.one 84 Tryz.t84) (TT.one 85 Tryz.t85))) (TT.two 88 (TT.two 87 (TT.one 86 Tryz.t86) (TT.one 87 Tryz.t87)) (TT.two 89 (TT.one 88 Tryz.t88) (TT.one 89 Tryz.t89))))) (TT.two 96 (TT.two 93 (TT.two 91 (TT.one 90 Tryz.t90) (TT.two 92 (TT.one 91 Tryz.t91) (TT.one 92 Tryz.t92))) (TT.two 94 (TT.one 93 Tryz.t93) (TT.two 95 (TT.one 94 Tryz.t94) (TT.one 95 Tryz.t95)))) (TT.two 99 (TT.two 97 (TT.one 96 Tryz.t96) (TT.two 98 (TT.one 97 Tryz.t97) (TT.one 98 Tryz.t98))) (TT.two 101 (TT.two 100 (TT.one 99 Tryz.t99) (TT.one 100 Tryz.t100)) (TT.two 102 (TT.one 101 Tryz.t101) (TT.one 102 Tryz.t102)))))))) (TT.two 155 (TT.two 129 (TT.two 116 (TT.two 109 (TT.two 106 (TT.two 104 (TT.one 103 Tryz.t103) (TT.two 105 (TT.one 104 Tryz.t104) (TT.one 105 Tryz.t105))) (TT.two 107 (TT.one 106 Tryz.t106) (TT.two 108 (TT.one 107 Tryz.t107) (TT.one 108 Tryz.t108)))) (TT.two 112 (TT.two 110 (TT.one 109 Tryz.t109) (TT.two 111 (TT.one 110 Tryz.t110) (TT.one 111 Tryz.t111))) (TT.two 114 (TT.two 113 (TT.one 112 Tryz.t112) (TT.one 113 Tryz.t113)) (TT.two 115 (TT.one 114 Tryz.t114) (TT.one 115 Tryz.t115))))) (TT.two 122 (TT.two 119 (TT.two 117 (TT.one 116 Tryz.t116) (TT.two 118 (TT.one 117 Tryz.t117) (TT.one 118 Tryz.t118))) (TT.two 120 (TT.one 119 Tryz.t119) (TT.two 121 (TT.one 120 Tryz.t120) (TT.one 121 Tryz.t121)))) (TT.two 125 (TT.two 123 (TT.one 122 Tryz.t122) (TT.two 124 (TT.one 123 Tryz.t123) (TT.one 124 Tryz.t124))) (TT.two 127 (TT.two 126 (TT.one 125 Tryz.t125) (TT.one 126 Tryz.t126)) (TT.two 128 (TT.one 127 Tryz.t127) (TT.one 128 Tryz.t128)))))) (TT.two 142 (TT.two 135 (TT.two 132 (TT.two 130 (TT.one 129 Tryz.t129) (TT.two 131 (TT.one 130 Tryz.t130) (TT.one 131 Tryz.t131))) (TT.two 133 (TT.one 132 Tryz.t132) (TT.two 134 (TT.one 133 Tryz.t133) (TT.one 134 Tryz.t134)))) (TT.two 138 (TT.two 136 (TT.one 135 Tryz.t135) (TT.two 137 (TT.one 136 Tryz.t136) (TT.one 137 Tryz.t137))) (TT.two 140 (TT.two 139 (TT.one 138 Tryz.t138) (TT.one 139 Tryz.t139)) (TT.two 141 (TT.one 140 Tryz.t140) (TT.one 141 Tryz.t141))))) (TT.two 148 (TT.two 145 (TT.two 143 (TT.one 142 Tryz.t142) (TT.two 144 (TT.one 143 Tryz.t143) (TT.one 144 Tryz.t144))) (TT.two 146 (TT.one 145 Tryz.t145) (TT.two 147 (TT.one 146 Tryz.t146) (TT.one 147 Tryz.t147)))) (TT.two 151 (TT.two 149 (TT.one 148 Tryz.t148) (TT.two 150 (TT.one 149 Tryz.t149) (TT.one 150 Tryz.t150))) (TT.two 153 (TT.two 152 (TT.one 151 Tryz.t151) (TT.one 152 Tryz.t152)) (TT.two 154 (TT.one 153 Tryz.t153) (TT.one 154 Tryz.t154))))))) (TT.two 181 (TT.two 168 (TT.two 161 (TT.two 158 (TT.two 156 (TT.one 155 Tryz.t155) (TT.two 157 (TT.one 156 Tryz.t156) (TT.one 157 Tryz.t157))) (TT.two 159 (TT.one 158 Tryz.t158) (TT.two 160 (TT.one 159 Tryz.t159) (TT.one 160 Tryz.t160)))) (TT.two 164 (TT.two 162 (TT.one 161 Tryz.t161) (TT.two 163 (TT.one 162 Tryz.t162) (TT.one 163 Tryz.t163))) (TT.two 166 (TT.two 165 (TT.one 164 Tryz.t164) (TT.one 165 Tryz.t165)) (TT.two 167 (TT.one 166 Tryz.t166) (TT.one 167 Tryz.t167))))) (TT.two 174 (TT.two 171 (TT.two 169 (TT.one 168 Tryz.t168) (TT.two 170 (TT.one 169 Tryz.t169) (TT.one 170 Tryz.t170))) (TT.two 172 (TT.one 171 Tryz.t171) (TT.two 173 (TT.one 172 Tryz.t172) (TT.one 173 Tryz.t173)))) (TT.two 177 (TT.two 175 (TT.one 174 Tryz.t174) (TT.two 176 (TT.one 175 Tryz.t175) (TT.one 176 Tryz.t176))) (TT.two 179 (TT.two 178 (TT.one 177 Tryz.t177) (TT.one 178 Tryz.t178)) (TT.two 180 (TT.one 179 Tryz.t179) (TT.one 180 Tryz.t180)))))) (TT.two 194 (TT.two 187 (TT.two 184 (TT.two 182 (TT.one 181 Tryz.t181) (TT.two 183 (TT.one 182 Tryz.t182) (TT.one 183 Tryz.t183))) (TT.two 185 (TT.one 184 Tryz.t184) (TT.two 186 (TT.one 185 Tryz.t185) (TT.one 186 Tryz.t186)))) (TT.two 190 (TT.two 188 (TT.one 187 Tryz.t187) (TT.two 189 (TT.one 188 Tryz.t188) (TT.one 189 Tryz.t189))) (TT.two 192 (TT.two 191 (TT.one 190 Tryz.t190) (TT.one 191 Tryz.t191)) (TT.two 193 (TT.one 192 Tryz.t192) (TT.one 193 Tryz.t193))))) (TT.two 200 (TT.two 197 (TT.two 195 (TT.one 194 Tryz.t194) (TT.two 196 (TT.one 195 Tryz.t195) (TT.one 196 Tryz.t196))) (TT.two 198 (TT.one 197 Tryz.t197) (TT.two 199 (TT.one 198 Tryz.t198) (TT.one 199 Tryz.t199)))) (TT.two 203 (TT.two 201 (TT.one 200 Tryz.t200) (TT.two 202 (TT.one 201 Tryz.t201) (TT.one 202 Tryz.t202))) (TT.two 205 (TT.two 204 (TT.one 203 Tryz.t203) (TT.one 204 Tryz.t204)) (TT.two 206 (TT.one 205 Tryz.t205) (TT.one 206 Tryz.t206)))))))))
noncomputable def TB : Tab := fun n => TT.look n tt
def TT.Ok (P : Program) : TT → Prop
  | .one n i => P.info? n = some i
  | .two _ a b => a.Ok P ∧ b.Ok P
theorem TT.ok (P : Program) : ∀ (t : TT), t.Ok P → TabOk P fun k => TT.look k t
  | .one n i, h => fun k j hk => by
    replace hk : TT.look k (.one n i) = some j := hk
    unfold TT.look at hk
    split at hk
    · rename_i e; cases hk; rw [← Nat.eq_of_beq_eq_true e]; exact h
    · cases hk
  | .two m a b, h => fun k j hk => by
    replace hk : TT.look k (.two m a b) = some j := hk
    unfold TT.look at hk
    split at hk
    · exact TT.ok P a h.1 k j hk
    · exact TT.ok P b h.2 k j hk
theorem TB_ok : TabOk Tryz.prog TB := TT.ok _ tt ⟨⟨⟨⟨⟨⟨⟨inf0, ⟨inf1, inf2⟩⟩, ⟨inf3, ⟨inf4, inf5⟩⟩⟩, ⟨⟨inf6, ⟨inf7, inf8⟩⟩, ⟨inf9, ⟨inf10, inf11⟩⟩⟩⟩, ⟨⟨⟨inf12, ⟨inf13, inf14⟩⟩, ⟨inf15, ⟨inf16, inf17⟩⟩⟩, ⟨⟨inf18, ⟨inf19, inf20⟩⟩, ⟨⟨inf21, inf22⟩, ⟨inf23, inf24⟩⟩⟩⟩⟩, ⟨⟨⟨⟨inf25, ⟨inf26, inf27⟩⟩, ⟨inf28, ⟨inf29, inf30⟩⟩⟩, ⟨⟨inf31, ⟨inf32, inf33⟩⟩, ⟨⟨inf34, inf35⟩, ⟨inf36, inf37⟩⟩⟩⟩, ⟨⟨⟨inf38, ⟨inf39, inf40⟩⟩, ⟨inf41, ⟨inf42, inf43⟩⟩⟩, ⟨⟨inf44, ⟨inf45, inf46⟩⟩, ⟨⟨inf47, inf48⟩, ⟨inf49, inf50⟩⟩⟩⟩⟩⟩, ⟨⟨⟨⟨⟨inf51, ⟨inf52, inf53⟩⟩, ⟨inf54, ⟨inf55, inf56⟩⟩⟩, ⟨⟨inf57, ⟨inf58, inf59⟩⟩, ⟨⟨inf60, inf61⟩, ⟨inf62, inf63⟩⟩⟩⟩, ⟨⟨⟨inf64, ⟨inf65, inf66⟩⟩, ⟨inf67, ⟨inf68, inf69⟩⟩⟩, ⟨⟨inf70, ⟨inf71, inf72⟩⟩, ⟨⟨inf73, inf74⟩, ⟨inf75, inf76⟩⟩⟩⟩⟩, ⟨⟨⟨⟨inf77, ⟨inf78, inf79⟩⟩, ⟨inf80, ⟨inf81, inf82⟩⟩⟩, ⟨⟨inf83, ⟨inf84, inf85⟩⟩, ⟨⟨inf86, inf87⟩, ⟨inf88, inf89⟩⟩⟩⟩, ⟨⟨⟨inf90, ⟨inf91, inf92⟩⟩, ⟨inf93, ⟨inf94, inf95⟩⟩⟩, ⟨⟨inf96, ⟨inf97, inf98⟩⟩, ⟨⟨inf99, inf100⟩, ⟨inf101, inf102⟩⟩⟩⟩⟩⟩⟩, ⟨⟨⟨⟨⟨⟨inf103, ⟨inf104, inf105⟩⟩, ⟨inf106, ⟨inf107, inf108⟩⟩⟩, ⟨⟨inf109, ⟨inf110, inf111⟩⟩, ⟨⟨inf112, inf113⟩, ⟨inf114, inf115⟩⟩⟩⟩, ⟨⟨⟨inf116, ⟨inf117, inf118⟩⟩, ⟨inf119, ⟨inf120, inf121⟩⟩⟩, ⟨⟨inf122, ⟨inf123, inf124⟩⟩, ⟨⟨inf125, inf126⟩, ⟨inf127, inf128⟩⟩⟩⟩⟩, ⟨⟨⟨⟨inf129, ⟨inf130, inf131⟩⟩, ⟨inf132, ⟨inf133, inf134⟩⟩⟩, ⟨⟨inf135, ⟨inf136, inf137⟩⟩, ⟨⟨inf138, inf139⟩, ⟨inf140, inf141⟩⟩⟩⟩, ⟨⟨⟨inf142, ⟨inf143, inf144⟩⟩, ⟨inf145, ⟨inf146, inf147⟩⟩⟩, ⟨⟨inf148, ⟨inf149, inf150⟩⟩, ⟨⟨inf151, inf152⟩, ⟨inf153, inf154⟩⟩⟩⟩⟩⟩, ⟨⟨⟨⟨⟨inf155, ⟨inf156, inf157⟩⟩, ⟨inf158, ⟨inf159, inf160⟩⟩⟩, ⟨⟨inf161, ⟨inf162, inf163⟩⟩, ⟨⟨inf164, inf165⟩, ⟨inf166, inf167⟩⟩⟩⟩, ⟨⟨⟨inf168, ⟨inf169, inf170⟩⟩, ⟨inf171, ⟨inf172, inf173⟩⟩⟩, ⟨⟨inf174, ⟨inf175, inf176⟩⟩, ⟨⟨inf177, inf178⟩, ⟨inf179, inf180⟩⟩⟩⟩⟩, ⟨⟨⟨⟨inf181, ⟨inf182, inf183⟩⟩, ⟨inf184, ⟨inf185, inf186⟩⟩⟩, ⟨⟨inf187, ⟨inf188, inf189⟩⟩, ⟨⟨inf190, inf191⟩, ⟨inf192, inf193⟩⟩⟩⟩, ⟨⟨⟨inf194, ⟨inf195, inf196⟩⟩, ⟨inf197, ⟨inf198, inf199⟩⟩⟩, ⟨⟨inf200, ⟨inf201, inf202⟩⟩, ⟨⟨inf203, inf204⟩, ⟨inf205, inf206⟩⟩⟩⟩⟩⟩⟩⟩
end Go.RV
