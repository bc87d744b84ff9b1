/- RegionOrder: what begun answers, by the prover's engine. -/
import Derived.Test.YtjngjfgbholgpaaEngZe
import Derived.Test.YtjngjfgbholgpaaProg
import Derived.KernelRfl
set_option linter.unusedSimpArgs false
set_option linter.unusedVariables false
namespace Go.Proofs.YtjngjfgbholgpaaBegun
open Go Go.Eng
set_option maxRecDepth 100000
set_option linter.unusedVariables false
instance : Env := noEnv
abbrev n6 (n : Nat) : V := .i .i64 (.ofNat n)
abbrev n8 (n : Nat) : V := .i .u8 (.ofNat n)
noncomputable def q0 : Path := .e
noncomputable def q1 : Path := (.l q0)
noncomputable def q2 : Path := (.r q0)
noncomputable def q3 : Path := (.l q1)
noncomputable def q4 : Path := (.r q1)
noncomputable def q5 : Path := (.l q2)
noncomputable def q6 : Path := (.r q2)
noncomputable def q7 : Path := (.l q3)
noncomputable def q8 : Path := (.r q3)
noncomputable def q9 : Path := (.l q4)
noncomputable def q10 : Path := (.r q4)
noncomputable def q11 : Path := (.l q5)
noncomputable def q12 : Path := (.r q5)
noncomputable def q13 : Path := (.l q6)
noncomputable def q14 : Path := (.r q6)
noncomputable def q15 : Path := (.l q7)
noncomputable def q16 : Path := (.r q7)
noncomputable def q17 : Path := (.l q8)
noncomputable def q18 : Path := (.r q8)
noncomputable def q19 : Path := (.l q9)
noncomputable def q20 : Path := (.r q9)
noncomputable def q21 : Path := (.l q10)
noncomputable def q22 : Path := (.r q10)
noncomputable def q23 : Path := (.l q11)
noncomputable def q24 : Path := (.r q11)
noncomputable def q25 : Path := (.l q12)
noncomputable def q26 : Path := (.r q12)
noncomputable def q27 : Path := (.l q13)
noncomputable def q28 : Path := (.r q13)
noncomputable def q29 : Path := (.l q14)
noncomputable def q30 : Path := (.r q14)
noncomputable def q31 : Path := (.l q15)
noncomputable def q32 : Path := (.r q15)
noncomputable def q33 : Path := (.l q16)
noncomputable def q34 : Path := (.r q16)
noncomputable def q35 : Path := (.l q17)
noncomputable def q36 : Path := (.r q17)
noncomputable def q37 : Path := (.l q18)
noncomputable def q38 : Path := (.r q18)
noncomputable def q39 : Path := (.l q19)
noncomputable def q40 : Path := (.r q19)
noncomputable def q41 : Path := (.l q20)
noncomputable def q42 : Path := (.r q20)
noncomputable def q43 : Path := (.l q21)
noncomputable def q44 : Path := (.r q21)
noncomputable def q45 : Path := (.l q22)
noncomputable def q46 : Path := (.r q22)
noncomputable def q47 : Path := (.l q23)
noncomputable def q48 : Path := (.r q23)
noncomputable def q49 : Path := (.l q24)
noncomputable def q50 : Path := (.r q24)
noncomputable def q51 : Path := (.l q25)
noncomputable def q52 : Path := (.r q25)
noncomputable def q53 : Path := (.l q26)
noncomputable def q54 : Path := (.r q26)
noncomputable def q55 : Path := (.l q27)
noncomputable def q56 : Path := (.r q27)
noncomputable def q57 : Path := (.l q28)
noncomputable def q58 : Path := (.r q28)
noncomputable def q59 : Path := (.l q29)
noncomputable def q60 : Path := (.r q29)
noncomputable def q61 : Path := (.l q30)
noncomputable def q62 : Path := (.r q30)
noncomputable def q63 : Path := (.l q31)
noncomputable def q64 : Path := (.r q31)
noncomputable def q65 : Path := (.l q32)
noncomputable def q66 : Path := (.r q32)
noncomputable def q67 : Path := (.l q33)
noncomputable def q68 : Path := (.r q33)
noncomputable def q69 : Path := (.l q34)
noncomputable def q70 : Path := (.r q34)
noncomputable def q71 : Path := (.l q35)
noncomputable def q72 : Path := (.r q35)
noncomputable def q73 : Path := (.l q36)
noncomputable def q74 : Path := (.r q36)
noncomputable def q75 : Path := (.l q37)
noncomputable def q76 : Path := (.r q37)
noncomputable def q77 : Path := (.l q38)
noncomputable def q78 : Path := (.r q38)
noncomputable def q79 : Path := (.l q39)
noncomputable def q80 : Path := (.r q39)
noncomputable def q81 : Path := (.l q40)
noncomputable def q82 : Path := (.r q40)
noncomputable def q83 : Path := (.l q41)
noncomputable def q84 : Path := (.r q41)
noncomputable def q85 : Path := (.l q42)
noncomputable def q86 : Path := (.r q42)
noncomputable def q87 : Path := (.l q43)
noncomputable def q88 : Path := (.r q43)
noncomputable def q89 : Path := (.l q44)
noncomputable def q90 : Path := (.r q44)
noncomputable def q91 : Path := (.l q45)
noncomputable def q92 : Path := (.r q45)
noncomputable def q93 : Path := (.l q46)
noncomputable def q94 : Path := (.r q46)
noncomputable def q95 : Path := (.l q47)
noncomputable def q96 : Path := (.r q47)
noncomputable def q97 : Path := (.l q48)
noncomputable def q98 : Path := (.r q48)
noncomputable def q99 : Path := (.l q49)
noncomputable def q100 : Path := (.r q49)
noncomputable def q101 : Path := (.l q50)
noncomputable def q102 : Path := (.r q50)
noncomputable def q103 : Path := (.l q51)
noncomputable def q104 : Path := (.r q51)
noncomputable def q105 : Path := (.l q52)
noncomputable def q106 : Path := (.r q52)
noncomputable def q107 : Path := (.l q53)
noncomputable def q108 : Path := (.r q53)
noncomputable def q109 : Path := (.l q54)
noncomputable def q110 : Path := (.r q54)
noncomputable def q111 : Path := (.l q55)
noncomputable def q112 : Path := (.r q55)
noncomputable def q113 : Path := (.l q56)
noncomputable def q114 : Path := (.r q56)
noncomputable def q115 : Path := (.l q57)
noncomputable def q116 : Path := (.r q57)
noncomputable def q117 : Path := (.l q58)
noncomputable def q118 : Path := (.r q58)
noncomputable def q119 : Path := (.l q59)
noncomputable def q120 : Path := (.r q59)
noncomputable def q121 : Path := (.l q60)
noncomputable def q122 : Path := (.r q60)
noncomputable def q123 : Path := (.l q61)
noncomputable def q124 : Path := (.r q61)
noncomputable def q125 : Path := (.l q62)
noncomputable def q126 : Path := (.r q62)
noncomputable def q127 : Path := (.l q63)
noncomputable def q128 : Path := (.r q63)
noncomputable def q129 : Path := (.l q64)
noncomputable def q130 : Path := (.r q64)
noncomputable def q131 : Path := (.l q65)
noncomputable def q132 : Path := (.r q65)
noncomputable def q133 : Path := (.l q66)
noncomputable def q134 : Path := (.r q66)
noncomputable def q135 : Path := (.l q67)
noncomputable def q136 : Path := (.r q67)
noncomputable def q137 : Path := (.l q68)
noncomputable def q138 : Path := (.r q68)
noncomputable def q139 : Path := (.l q69)
noncomputable def q140 : Path := (.r q69)
noncomputable def q141 : Path := (.l q70)
noncomputable def q142 : Path := (.r q70)
noncomputable def q143 : Path := (.l q71)
noncomputable def q144 : Path := (.r q71)
noncomputable def q145 : Path := (.l q72)
noncomputable def q146 : Path := (.r q72)
noncomputable def q147 : Path := (.l q73)
noncomputable def q148 : Path := (.r q73)
noncomputable def q149 : Path := (.l q74)
noncomputable def q150 : Path := (.r q74)
noncomputable def q151 : Path := (.l q75)
noncomputable def q152 : Path := (.r q75)
noncomputable def q153 : Path := (.l q76)
noncomputable def q154 : Path := (.r q76)
noncomputable def q155 : Path := (.l q77)
noncomputable def q156 : Path := (.r q77)
noncomputable def q157 : Path := (.l q78)
noncomputable def q158 : Path := (.r q78)
noncomputable def q159 : Path := (.l q79)
noncomputable def q160 : Path := (.r q79)
noncomputable def q161 : Path := (.l q80)
noncomputable def q162 : Path := (.r q80)
noncomputable def q163 : Path := (.l q81)
noncomputable def q164 : Path := (.r q81)
noncomputable def q165 : Path := (.l q82)
noncomputable def q166 : Path := (.r q82)
noncomputable def q167 : Path := (.l q83)
noncomputable def q168 : Path := (.r q83)
noncomputable def q169 : Path := (.l q84)
noncomputable def q170 : Path := (.r q84)
noncomputable def q171 : Path := (.l q85)
noncomputable def q172 : Path := (.r q85)
noncomputable def q173 : Path := (.l q86)
noncomputable def q174 : Path := (.r q86)
noncomputable def q175 : Path := (.l q87)
noncomputable def q176 : Path := (.r q87)
noncomputable def q177 : Path := (.l q88)
noncomputable def q178 : Path := (.r q88)
noncomputable def t0 : Opd := .t q0
noncomputable def t1 : Opd := .t q1
noncomputable def t2 : Opd := .t q2
noncomputable def t3 : Opd := .t q3
noncomputable def t4 : Opd := .t q4
noncomputable def t5 : Opd := .t q5
noncomputable def t6 : Opd := .t q6
noncomputable def t7 : Opd := .t q7
noncomputable def t8 : Opd := .t q8
noncomputable def t9 : Opd := .t q9
noncomputable def t10 : Opd := .t q10
noncomputable def t11 : Opd := .t q11
noncomputable def t12 : Opd := .t q12
noncomputable def t13 : Opd := .t q13
noncomputable def t14 : Opd := .t q14
noncomputable def t15 : Opd := .t q15
noncomputable def t16 : Opd := .t q16
noncomputable def t17 : Opd := .t q17
noncomputable def t18 : Opd := .t q18
noncomputable def t19 : Opd := .t q19
noncomputable def t20 : Opd := .t q20
noncomputable def t21 : Opd := .t q21
noncomputable def t22 : Opd := .t q22
noncomputable def t23 : Opd := .t q23
noncomputable def t24 : Opd := .t q24
noncomputable def t25 : Opd := .t q25
noncomputable def t26 : Opd := .t q26
noncomputable def t27 : Opd := .t q27
noncomputable def t28 : Opd := .t q28
noncomputable def t29 : Opd := .t q29
noncomputable def t30 : Opd := .t q30
noncomputable def t31 : Opd := .t q31
noncomputable def t32 : Opd := .t q32
noncomputable def t33 : Opd := .t q33
noncomputable def t34 : Opd := .t q34
noncomputable def t35 : Opd := .t q35
noncomputable def t36 : Opd := .t q36
noncomputable def t37 : Opd := .t q37
noncomputable def t38 : Opd := .t q38
noncomputable def t39 : Opd := .t q39
noncomputable def t40 : Opd := .t q40
noncomputable def t41 : Opd := .t q41
noncomputable def t42 : Opd := .t q42
noncomputable def t43 : Opd := .t q43
noncomputable def t44 : Opd := .t q44
noncomputable def t45 : Opd := .t q45
noncomputable def t46 : Opd := .t q46
noncomputable def t47 : Opd := .t q47
noncomputable def t48 : Opd := .t q48
noncomputable def t49 : Opd := .t q49
noncomputable def t50 : Opd := .t q50
noncomputable def t51 : Opd := .t q51
noncomputable def t52 : Opd := .t q52
noncomputable def t53 : Opd := .t q53
noncomputable def t54 : Opd := .t q54
noncomputable def t55 : Opd := .t q55
noncomputable def t56 : Opd := .t q56
noncomputable def t57 : Opd := .t q57
noncomputable def t58 : Opd := .t q58
noncomputable def t59 : Opd := .t q59
noncomputable def t60 : Opd := .t q60
noncomputable def t61 : Opd := .t q61
noncomputable def t62 : Opd := .t q62
noncomputable def t63 : Opd := .t q63
noncomputable def t64 : Opd := .t q64
noncomputable def t65 : Opd := .t q65
noncomputable def t66 : Opd := .t q66
noncomputable def t67 : Opd := .t q67
noncomputable def t68 : Opd := .t q68
noncomputable def t69 : Opd := .t q69
noncomputable def t70 : Opd := .t q70
noncomputable def t71 : Opd := .t q71
noncomputable def t72 : Opd := .t q72
noncomputable def t73 : Opd := .t q73
noncomputable def t74 : Opd := .t q74
noncomputable def t75 : Opd := .t q75
noncomputable def t76 : Opd := .t q76
noncomputable def t77 : Opd := .t q77
noncomputable def t78 : Opd := .t q78
noncomputable def t79 : Opd := .t q79
noncomputable def t80 : Opd := .t q80
noncomputable def t81 : Opd := .t q81
noncomputable def t82 : Opd := .t q82
noncomputable def t83 : Opd := .t q83
noncomputable def t84 : Opd := .t q84
noncomputable def t85 : Opd := .t q85
noncomputable def t86 : Opd := .t q86
noncomputable def t87 : Opd := .t q87
noncomputable def t88 : Opd := .t q88
noncomputable def t89 : Opd := .t q89
noncomputable def t90 : Opd := .t q90
noncomputable def t91 : Opd := .t q91
noncomputable def t92 : Opd := .t q92
noncomputable def t93 : Opd := .t q93
noncomputable def t94 : Opd := .t q94
noncomputable def t95 : Opd := .t q95
noncomputable def t96 : Opd := .t q96
noncomputable def t97 : Opd := .t q97
noncomputable def t98 : Opd := .t q98
noncomputable def t99 : Opd := .t q99
noncomputable def t100 : Opd := .t q100
noncomputable def t101 : Opd := .t q101
noncomputable def t102 : Opd := .t q102
noncomputable def t103 : Opd := .t q103
noncomputable def t104 : Opd := .t q104
noncomputable def t105 : Opd := .t q105
noncomputable def t106 : Opd := .t q106
noncomputable def t107 : Opd := .t q107
noncomputable def t108 : Opd := .t q108
noncomputable def t109 : Opd := .t q109
noncomputable def t110 : Opd := .t q110
noncomputable def t111 : Opd := .t q111
noncomputable def t112 : Opd := .t q112
noncomputable def t113 : Opd := .t q113
noncomputable def t114 : Opd := .t q114
noncomputable def t115 : Opd := .t q115
noncomputable def t116 : Opd := .t q116
noncomputable def t117 : Opd := .t q117
noncomputable def t118 : Opd := .t q118
noncomputable def t119 : Opd := .t q119
noncomputable def t120 : Opd := .t q120
noncomputable def t121 : Opd := .t q121
noncomputable def t122 : Opd := .t q122
noncomputable def t123 : Opd := .t q123
noncomputable def t124 : Opd := .t q124
noncomputable def t125 : Opd := .t q125
noncomputable def t126 : Opd := .t q126
noncomputable def t127 : Opd := .t q127
noncomputable def t128 : Opd := .t q128
noncomputable def t129 : Opd := .t q129
noncomputable def t130 : Opd := .t q130
noncomputable def t131 : Opd := .t q131
noncomputable def t132 : Opd := .t q132
noncomputable def t133 : Opd := .t q133
noncomputable def t134 : Opd := .t q134
noncomputable def t135 : Opd := .t q135
noncomputable def t136 : Opd := .t q136
noncomputable def t137 : Opd := .t q137
noncomputable def t138 : Opd := .t q138
noncomputable def t139 : Opd := .t q139
noncomputable def t140 : Opd := .t q140
noncomputable def t141 : Opd := .t q141
noncomputable def t142 : Opd := .t q142
noncomputable def t143 : Opd := .t q143
noncomputable def t144 : Opd := .t q144
noncomputable def t145 : Opd := .t q145
noncomputable def t146 : Opd := .t q146
noncomputable def t147 : Opd := .t q147
noncomputable def t148 : Opd := .t q148
noncomputable def t149 : Opd := .t q149
noncomputable def t150 : Opd := .t q150
noncomputable def t151 : Opd := .t q151
noncomputable def t152 : Opd := .t q152
noncomputable def t153 : Opd := .t q153
noncomputable def t154 : Opd := .t q154
noncomputable def t155 : Opd := .t q155
noncomputable def t156 : Opd := .t q156
noncomputable def t157 : Opd := .t q157
noncomputable def t158 : Opd := .t q158
noncomputable def t159 : Opd := .t q159
noncomputable def t160 : Opd := .t q160
noncomputable def t161 : Opd := .t q161
noncomputable def t162 : Opd := .t q162
noncomputable def t163 : Opd := .t q163
noncomputable def t164 : Opd := .t q164
noncomputable def t165 : Opd := .t q165
noncomputable def t166 : Opd := .t q166
noncomputable def t167 : Opd := .t q167
noncomputable def t168 : Opd := .t q168
noncomputable def t169 : Opd := .t q169
noncomputable def t170 : Opd := .t q170
noncomputable def t171 : Opd := .t q171
noncomputable def t172 : Opd := .t q172
noncomputable def t173 : Opd := .t q173
noncomputable def t174 : Opd := .t q174
noncomputable def t175 : Opd := .t q175
noncomputable def t176 : Opd := .t q176
noncomputable def t177 : Opd := .t q177
noncomputable def t178 : Opd := .t q178
noncomputable def v0 : GV := valT
noncomputable def v1 : GV := gL v0
noncomputable def v2 : GV := gR v0
noncomputable def v3 : GV := gL v1
noncomputable def v4 : GV := gR v1
noncomputable def v5 : GV := gL v2
noncomputable def v6 : GV := gR v2
noncomputable def v7 : GV := gL v3
noncomputable def v8 : GV := gR v3
noncomputable def v9 : GV := gL v4
noncomputable def v10 : GV := gR v4
noncomputable def v11 : GV := gL v5
noncomputable def v12 : GV := gR v5
noncomputable def v13 : GV := gL v6
noncomputable def v14 : GV := gR v6
noncomputable def v15 : GV := gL v7
noncomputable def v16 : GV := gR v7
noncomputable def v17 : GV := gL v8
noncomputable def v18 : GV := gR v8
noncomputable def v19 : GV := gL v9
noncomputable def v20 : GV := gR v9
noncomputable def v21 : GV := gL v10
noncomputable def v22 : GV := gR v10
noncomputable def v23 : GV := gL v11
noncomputable def v24 : GV := gR v11
noncomputable def v25 : GV := gL v12
noncomputable def v26 : GV := gR v12
noncomputable def v27 : GV := gL v13
noncomputable def v28 : GV := gR v13
noncomputable def v29 : GV := gL v14
noncomputable def v30 : GV := gR v14
noncomputable def v31 : GV := gL v15
noncomputable def v32 : GV := gR v15
noncomputable def v33 : GV := gL v16
noncomputable def v34 : GV := gR v16
noncomputable def v35 : GV := gL v17
noncomputable def v36 : GV := gR v17
noncomputable def v37 : GV := gL v18
noncomputable def v38 : GV := gR v18
noncomputable def v39 : GV := gL v19
noncomputable def v40 : GV := gR v19
noncomputable def v41 : GV := gL v20
noncomputable def v42 : GV := gR v20
noncomputable def v43 : GV := gL v21
noncomputable def v44 : GV := gR v21
noncomputable def v45 : GV := gL v22
noncomputable def v46 : GV := gR v22
noncomputable def v47 : GV := gL v23
noncomputable def v48 : GV := gR v23
noncomputable def v49 : GV := gL v24
noncomputable def v50 : GV := gR v24
noncomputable def v51 : GV := gL v25
noncomputable def v52 : GV := gR v25
noncomputable def v53 : GV := gL v26
noncomputable def v54 : GV := gR v26
noncomputable def v55 : GV := gL v27
noncomputable def v56 : GV := gR v27
noncomputable def v57 : GV := gL v28
noncomputable def v58 : GV := gR v28
noncomputable def v59 : GV := gL v29
noncomputable def v60 : GV := gR v29
noncomputable def v61 : GV := gL v30
noncomputable def v62 : GV := gR v30
noncomputable def v63 : GV := gL v31
noncomputable def v64 : GV := gR v31
noncomputable def v65 : GV := gL v32
noncomputable def v66 : GV := gR v32
noncomputable def v67 : GV := gL v33
noncomputable def v68 : GV := gR v33
noncomputable def v69 : GV := gL v34
noncomputable def v70 : GV := gR v34
noncomputable def v71 : GV := gL v35
noncomputable def v72 : GV := gR v35
noncomputable def v73 : GV := gL v36
noncomputable def v74 : GV := gR v36
noncomputable def v75 : GV := gL v37
noncomputable def v76 : GV := gR v37
noncomputable def v77 : GV := gL v38
noncomputable def v78 : GV := gR v38
noncomputable def v79 : GV := gL v39
noncomputable def v80 : GV := gR v39
noncomputable def v81 : GV := gL v40
noncomputable def v82 : GV := gR v40
noncomputable def v83 : GV := gL v41
noncomputable def v84 : GV := gR v41
noncomputable def v85 : GV := gL v42
noncomputable def v86 : GV := gR v42
noncomputable def v87 : GV := gL v43
noncomputable def v88 : GV := gR v43
noncomputable def v89 : GV := gL v44
noncomputable def v90 : GV := gR v44
noncomputable def v91 : GV := gL v45
noncomputable def v92 : GV := gR v45
noncomputable def v93 : GV := gL v46
noncomputable def v94 : GV := gR v46
noncomputable def v95 : GV := gL v47
noncomputable def v96 : GV := gR v47
noncomputable def v97 : GV := gL v48
noncomputable def v98 : GV := gR v48
noncomputable def v99 : GV := gL v49
noncomputable def v100 : GV := gR v49
noncomputable def v101 : GV := gL v50
noncomputable def v102 : GV := gR v50
noncomputable def v103 : GV := gL v51
noncomputable def v104 : GV := gR v51
noncomputable def v105 : GV := gL v52
noncomputable def v106 : GV := gR v52
noncomputable def v107 : GV := gL v53
noncomputable def v108 : GV := gR v53
noncomputable def v109 : GV := gL v54
noncomputable def v110 : GV := gR v54
noncomputable def v111 : GV := gL v55
noncomputable def v112 : GV := gR v55
noncomputable def v113 : GV := gL v56
noncomputable def v114 : GV := gR v56
noncomputable def v115 : GV := gL v57
noncomputable def v116 : GV := gR v57
noncomputable def v117 : GV := gL v58
noncomputable def v118 : GV := gR v58
noncomputable def v119 : GV := gL v59
noncomputable def v120 : GV := gR v59
noncomputable def v121 : GV := gL v60
noncomputable def v122 : GV := gR v60
noncomputable def v123 : GV := gL v61
noncomputable def v124 : GV := gR v61
noncomputable def v125 : GV := gL v62
noncomputable def v126 : GV := gR v62
noncomputable def v127 : GV := gL v63
noncomputable def v128 : GV := gR v63
noncomputable def v129 : GV := gL v64
noncomputable def v130 : GV := gR v64
noncomputable def v131 : GV := gL v65
noncomputable def v132 : GV := gR v65
noncomputable def v133 : GV := gL v66
noncomputable def v134 : GV := gR v66
noncomputable def v135 : GV := gL v67
noncomputable def v136 : GV := gR v67
noncomputable def v137 : GV := gL v68
noncomputable def v138 : GV := gR v68
noncomputable def v139 : GV := gL v69
noncomputable def v140 : GV := gR v69
noncomputable def v141 : GV := gL v70
noncomputable def v142 : GV := gR v70
noncomputable def v143 : GV := gL v71
noncomputable def v144 : GV := gR v71
noncomputable def v145 : GV := gL v72
noncomputable def v146 : GV := gR v72
noncomputable def v147 : GV := gL v73
noncomputable def v148 : GV := gR v73
noncomputable def v149 : GV := gL v74
noncomputable def v150 : GV := gR v74
noncomputable def v151 : GV := gL v75
noncomputable def v152 : GV := gR v75
noncomputable def v153 : GV := gL v76
noncomputable def v154 : GV := gR v76
noncomputable def v155 : GV := gL v77
noncomputable def v156 : GV := gR v77
noncomputable def v157 : GV := gL v78
noncomputable def v158 : GV := gR v78
noncomputable def v159 : GV := gL v79
noncomputable def v160 : GV := gR v79
noncomputable def v161 : GV := gL v80
noncomputable def v162 : GV := gR v80
noncomputable def v163 : GV := gL v81
noncomputable def v164 : GV := gR v81
noncomputable def v165 : GV := gL v82
noncomputable def v166 : GV := gR v82
noncomputable def v167 : GV := gL v83
noncomputable def v168 : GV := gR v83
noncomputable def v169 : GV := gL v84
noncomputable def v170 : GV := gR v84
noncomputable def v171 : GV := gL v85
noncomputable def v172 : GV := gR v85
noncomputable def v173 : GV := gL v86
noncomputable def v174 : GV := gR v86
noncomputable def v175 : GV := gL v87
noncomputable def v176 : GV := gR v87
noncomputable def v177 : GV := gL v88
noncomputable def v178 : GV := gR v88
noncomputable def w0 : SV := sE
noncomputable def w1 : SV := sL w0
noncomputable def w2 : SV := sR w0
noncomputable def w3 : SV := sL w1
noncomputable def w4 : SV := sR w1
noncomputable def w5 : SV := sL w2
noncomputable def w6 : SV := sR w2
noncomputable def w7 : SV := sL w3
noncomputable def w8 : SV := sR w3
noncomputable def w9 : SV := sL w4
noncomputable def w10 : SV := sR w4
noncomputable def w11 : SV := sL w5
noncomputable def w12 : SV := sR w5
noncomputable def w13 : SV := sL w6
noncomputable def w14 : SV := sR w6
noncomputable def w15 : SV := sL w7
noncomputable def w16 : SV := sR w7
noncomputable def w17 : SV := sL w8
noncomputable def w18 : SV := sR w8
noncomputable def w19 : SV := sL w9
noncomputable def w20 : SV := sR w9
noncomputable def w21 : SV := sL w10
noncomputable def w22 : SV := sR w10
noncomputable def w23 : SV := sL w11
noncomputable def w24 : SV := sR w11
noncomputable def w25 : SV := sL w12
noncomputable def w26 : SV := sR w12
noncomputable def w27 : SV := sL w13
noncomputable def w28 : SV := sR w13
noncomputable def w29 : SV := sL w14
noncomputable def w30 : SV := sR w14
noncomputable def w31 : SV := sL w15
noncomputable def w32 : SV := sR w15
noncomputable def w33 : SV := sL w16
noncomputable def w34 : SV := sR w16
noncomputable def w35 : SV := sL w17
noncomputable def w36 : SV := sR w17
noncomputable def w37 : SV := sL w18
noncomputable def w38 : SV := sR w18
noncomputable def w39 : SV := sL w19
noncomputable def w40 : SV := sR w19
noncomputable def w41 : SV := sL w20
noncomputable def w42 : SV := sR w20
noncomputable def w43 : SV := sL w21
noncomputable def w44 : SV := sR w21
noncomputable def w45 : SV := sL w22
noncomputable def w46 : SV := sR w22
noncomputable def w47 : SV := sL w23
noncomputable def w48 : SV := sR w23
noncomputable def w49 : SV := sL w24
noncomputable def w50 : SV := sR w24
noncomputable def w51 : SV := sL w25
noncomputable def w52 : SV := sR w25
noncomputable def w53 : SV := sL w26
noncomputable def w54 : SV := sR w26
noncomputable def w55 : SV := sL w27
noncomputable def w56 : SV := sR w27
noncomputable def w57 : SV := sL w28
noncomputable def w58 : SV := sR w28
noncomputable def w59 : SV := sL w29
noncomputable def w60 : SV := sR w29
noncomputable def w61 : SV := sL w30
noncomputable def w62 : SV := sR w30
noncomputable def w63 : SV := sL w31
noncomputable def w64 : SV := sR w31
noncomputable def w65 : SV := sL w32
noncomputable def w66 : SV := sR w32
noncomputable def w67 : SV := sL w33
noncomputable def w68 : SV := sR w33
noncomputable def w69 : SV := sL w34
noncomputable def w70 : SV := sR w34
noncomputable def w71 : SV := sL w35
noncomputable def w72 : SV := sR w35
noncomputable def w73 : SV := sL w36
noncomputable def w74 : SV := sR w36
noncomputable def w75 : SV := sL w37
noncomputable def w76 : SV := sR w37
noncomputable def w77 : SV := sL w38
noncomputable def w78 : SV := sR w38
noncomputable def w79 : SV := sL w39
noncomputable def w80 : SV := sR w39
noncomputable def w81 : SV := sL w40
noncomputable def w82 : SV := sR w40
noncomputable def w83 : SV := sL w41
noncomputable def w84 : SV := sR w41
noncomputable def w85 : SV := sL w42
noncomputable def w86 : SV := sR w42
noncomputable def w87 : SV := sL w43
noncomputable def w88 : SV := sR w43
noncomputable def w89 : SV := sL w44
noncomputable def w90 : SV := sR w44
noncomputable def w91 : SV := sL w45
noncomputable def w92 : SV := sR w45
noncomputable def w93 : SV := sL w46
noncomputable def w94 : SV := sR w46
noncomputable def w95 : SV := sL w47
noncomputable def w96 : SV := sR w47
noncomputable def w97 : SV := sL w48
noncomputable def w98 : SV := sR w48
noncomputable def w99 : SV := sL w49
noncomputable def w100 : SV := sR w49
noncomputable def w101 : SV := sL w50
noncomputable def w102 : SV := sR w50
noncomputable def w103 : SV := sL w51
noncomputable def w104 : SV := sR w51
noncomputable def w105 : SV := sL w52
noncomputable def w106 : SV := sR w52
noncomputable def w107 : SV := sL w53
noncomputable def w108 : SV := sR w53
noncomputable def w109 : SV := sL w54
noncomputable def w110 : SV := sR w54
noncomputable def w111 : SV := sL w55
noncomputable def w112 : SV := sR w55
noncomputable def w113 : SV := sL w56
noncomputable def w114 : SV := sR w56
noncomputable def w115 : SV := sL w57
noncomputable def w116 : SV := sR w57
noncomputable def w117 : SV := sL w58
noncomputable def w118 : SV := sR w58
noncomputable def w119 : SV := sL w59
noncomputable def w120 : SV := sR w59
noncomputable def w121 : SV := sL w60
noncomputable def w122 : SV := sR w60
noncomputable def w123 : SV := sL w61
noncomputable def w124 : SV := sR w61
noncomputable def w125 : SV := sL w62
noncomputable def w126 : SV := sR w62
noncomputable def w127 : SV := sL w63
noncomputable def w128 : SV := sR w63
noncomputable def w129 : SV := sL w64
noncomputable def w130 : SV := sR w64
noncomputable def w131 : SV := sL w65
noncomputable def w132 : SV := sR w65
noncomputable def w133 : SV := sL w66
noncomputable def w134 : SV := sR w66
noncomputable def w135 : SV := sL w67
noncomputable def w136 : SV := sR w67
noncomputable def w137 : SV := sL w68
noncomputable def w138 : SV := sR w68
noncomputable def w139 : SV := sL w69
noncomputable def w140 : SV := sR w69
noncomputable def w141 : SV := sL w70
noncomputable def w142 : SV := sR w70
noncomputable def w143 : SV := sL w71
noncomputable def w144 : SV := sR w71
noncomputable def w145 : SV := sL w72
noncomputable def w146 : SV := sR w72
noncomputable def w147 : SV := sL w73
noncomputable def w148 : SV := sR w73
noncomputable def w149 : SV := sL w74
noncomputable def w150 : SV := sR w74
noncomputable def w151 : SV := sL w75
noncomputable def w152 : SV := sR w75
noncomputable def w153 : SV := sL w76
noncomputable def w154 : SV := sR w76
noncomputable def w155 : SV := sL w77
noncomputable def w156 : SV := sR w77
noncomputable def w157 : SV := sL w78
noncomputable def w158 : SV := sR w78
noncomputable def w159 : SV := sL w79
noncomputable def w160 : SV := sR w79
noncomputable def w161 : SV := sL w80
noncomputable def w162 : SV := sR w80
noncomputable def w163 : SV := sL w81
noncomputable def w164 : SV := sR w81
noncomputable def w165 : SV := sL w82
noncomputable def w166 : SV := sR w82
noncomputable def w167 : SV := sL w83
noncomputable def w168 : SV := sR w83
noncomputable def w169 : SV := sL w84
noncomputable def w170 : SV := sR w84
noncomputable def w171 : SV := sL w85
noncomputable def w172 : SV := sR w85
noncomputable def w173 : SV := sL w86
noncomputable def w174 : SV := sR w86
noncomputable def w175 : SV := sL w87
noncomputable def w176 : SV := sR w87
noncomputable def w177 : SV := sL w88
noncomputable def w178 : SV := sR w88
noncomputable def G4 : G := ⟨(nat_lit 46), Tr.fill undefV (nat_lit 46) (nat_lit 46), (rOne v0), (kSeq (kPu (eMv (gC (.b false))) w0 kEnd)
 (kSeq (kPu (eGen (.build [(n6 (nat_lit 0)), (n6 (nat_lit 0)), (n6 (nat_lit 0)), (n6 (nat_lit 0))] [((nat_lit 2), (nat_lit 1), (.c (n6 (nat_lit 2)))), ((nat_lit 3), (nat_lit 1), (.c (n6 (nat_lit 2))))])) w3 (kPu (eGen (.build [(n6 (nat_lit 0)), (n6 (nat_lit 0)), (n6 (nat_lit 0)), (n6 (nat_lit 0))] [((nat_lit 0), (nat_lit 1), (.c (n6 (nat_lit 0)))), ((nat_lit 1), (nat_lit 1), (.c (n6 (nat_lit 2)))), ((nat_lit 2), (nat_lit 1), (.c (n6 (nat_lit 2)))), ((nat_lit 3), (nat_lit 1), (.c (n6 (nat_lit 3))))])) w4 (kAl (eA (.buildSl [(n6 (nat_lit 0)), (n6 (nat_lit 0)), (n6 (nat_lit 0)), (n6 (nat_lit 0)), (n6 (nat_lit 0)), (n6 (nat_lit 0)), (n6 (nat_lit 0)), (n6 (nat_lit 0))] (nat_lit 27) (nat_lit 4) (nat_lit 2) [((nat_lit 0), (nat_lit 4), t3), ((nat_lit 4), (nat_lit 4), t4)])) w5 (kCall q6 [v5] w6 (kPu (eMv v6) w1 kEnd)))))
 (kSeq (kPu (eMv v1) w7 (kPu (eGen (.build [(n6 (nat_lit 0)), (n6 (nat_lit 0)), (n6 (nat_lit 0)), (n6 (nat_lit 0))] [((nat_lit 0), (nat_lit 1), (.c (n6 (nat_lit 1)))), ((nat_lit 1), (nat_lit 1), (.c (n6 (nat_lit 1)))), ((nat_lit 2), (nat_lit 1), (.c (n6 (nat_lit 2)))), ((nat_lit 3), (nat_lit 1), (.c (n6 (nat_lit 2))))])) w8 (kAl (eA (.buildSl [(n6 (nat_lit 0)), (n6 (nat_lit 0)), (n6 (nat_lit 0)), (n6 (nat_lit 0))] (nat_lit 27) (nat_lit 4) (nat_lit 1) [((nat_lit 0), (nat_lit 4), t8)])) w9 (kCall q7 [v7, v9] w10 (kPu (eMv v10) w2 kEnd)))))
 (kSeq (kPu (eMv v1) w11 (kPu (eLenSl v11) w12 (kPu (eBin fEql .eql (nat_lit 0) v12 (gC (n6 (nat_lit 1)))) w13 (kPu (eMv v13) w14 (kGd v14 true (kPu (eMv v1) w15) w15 (kGd v14 true (kPu (eIdxA (nat_lit 4) v15 (gC (n6 (nat_lit 0)))) w16) w16 (kGd v14 true (kPu (eFieldA (nat_lit 3) v16) w17) w17 (kGd v14 true (kRd (eLd1 v17) w18) w18 (kGd v14 true (kPu (eBin fEql .eql (nat_lit 0) v18 (gC (n6 (nat_lit 3)))) w19) w19 (kPu (eGen (.pick t14 t19 (.c (.b false)))) w20 (kPu (eMv v20) w21 (kGd v21 true (kPu (eMv v2) w22) w22 (kGd v21 true (kPu (eLenSl v22) w23) w23 (kGd v21 true (kPu (eBin fEql .eql (nat_lit 0) v23 (gC (n6 (nat_lit 3)))) w24) w24 (kPu (eGen (.pick t21 t24 (.c (.b false)))) w25 (kPu (eMv v25) w26 (kGd v26 true (kPu (eMv v2) w27) w27 (kGd v26 true (kCall q8 [v27, (gC (n6 (nat_lit 100)))] w28) w28 (kGd v26 true (kPu (eBin fEql .eql (nat_lit 0) v28 (gC (n6 (nat_lit 5)))) w29) w29 (kPu (eGen (.pick t26 t29 (.c (.b false)))) w30 (kPu (eMv v30) w31 (kGd v31 true (kPu (eMv v2) w32) w32 (kGd v31 true (kCall q9 [v32, (gC (n6 (nat_lit 0))), (gC (n6 (nat_lit 0)))] w33) w33 (kPu (eGen (.pick t31 t33 (.c (.b false)))) w34 (kPu (eMv v34) w35 (kGd v35 true (kPu (eMv v1) w36) w36 (kGd v35 true (kPu (eMv v1) w37) w37 (kGd v35 true (kCall q10 [v36, v37] w38) w38 (kPu (eGen (.pick t35 t38 (.c (.b false)))) w39 (kPu (eMv v39) w40 (kGd v40 true (kPu (eMv v1) w41) w41 (kGd v40 true (kPu (eIdxA (nat_lit 4) v41 (gC (n6 (nat_lit 0)))) w42) w42 (kGd v40 true (kRd (eLdA (nat_lit 4) v42) w43) w43 (kGd v40 true (kCall q11 [v43] w44) w44 (kPu (eGen (.pick t40 t44 (.c (.b false)))) w45 (kPu (eMv v45) w0 kEnd))))))))))))))))))))))))))))))))))))
 kRt)))), none⟩
noncomputable def G6 : G := ⟨(nat_lit 6), Tr.fill undefV (nat_lit 6) (nat_lit 6), (rOne v2), (kSeq (kPu (eMv (gC .sl0)) w2 kEnd)
 (kSeq (kPu (eMv v0) w3 (kCall q13 [v3] w4 (kCall q12 [v4] w5 (kPu (eMv v5) w2 kEnd))))
 kRt)), none⟩
noncomputable def G7 : G := ⟨(nat_lit 15), Tr.fill undefV (nat_lit 15) (nat_lit 15), (rOne v4), (kSeq (kAl (eA (.box t0 (nat_lit 22))) w2 (kAl (eA (.box t1 (nat_lit 22))) w3 (kPu (eMv (gC .sl0)) w4 kEnd)))
 (kSeq (kRd (eLd1 v2) w5 (kRd (eLd1 v3) w7 (kItG ⟨⟨(some q6), (.hv (.call q13 [t5])), none⟩, [], [(⟨(some q7), (.rd (.load false (nat_lit 1) t3)), none⟩, [])]⟩ (kCall q13 [v7] w8 (kHv (eSt1 v2 v6) s0 (kHv (eSt1 v3 v8) s0 kEnd))))))
 (kSeq (kRd (eLd1 v2) w9 (kRd (eLd1 v3) w10 (kAl (eA (.buildSl [.sl0, .sl0] (nat_lit 22) (nat_lit 1) (nat_lit 2) [((nat_lit 0), (nat_lit 1), t9), ((nat_lit 1), (nat_lit 1), t10)])) w11 (kCall q15 [v11] w12 (kPu (eGen (.mkF q16 [t2, t3])) w13 (kCall q14 [v12, v13] w14 (kPu (eMv v14) w4 kEnd)))))))
 kRt))), none⟩
noncomputable def G8 : G := ⟨(nat_lit 46), Tr.fill undefV (nat_lit 46) (nat_lit 46), (rOne v4), (kSeq (kPu (eMv (gC (n6 (nat_lit 0)))) w4 kEnd)
 (kSeq (kPu (eMv v1) w10 (kPu (eGen (.mx [t10, (.c (n6 (nat_lit 0)))])) w11 (kPu (eMv v11) w5 kEnd)))
 (kSeq (kSeq (kPu (eMv v0) w12 (kCall q6 [v12] w13 (kPu (eLenSl v13) w14 (kPu (eMv (gC (n6 (nat_lit 0)))) w15 kEnd))))
 (kBlock (nat_lit 0) (kLoop (kSeq (kPu (eBin fLss .lss (nat_lit 0) v15 v14) w16 kEnd)
 (kSeq (kCond v16 kEnd (kExit (nat_lit 0)))
 (kSeq (kBlock (nat_lit 1) (kSeq (kPu (eIdxA (nat_lit 4) v13 v15) w17 (kRd (eLdA (nat_lit 4) v17) w18 (kAl (eA (.alloc [(n6 (nat_lit 0)), (n6 (nat_lit 0)), (n6 (nat_lit 0)), (n6 (nat_lit 0))] (nat_lit 27))) w7 (kHv (eStN (nat_lit 4) v7 v18) s0 kEnd))))
 (kSeq (kPu (eFieldA (nat_lit 2) v7) w19 (kRd (eLd1 v19) w20 (kPu (eFieldA (nat_lit 0) v7) w21 (kRd (eLd1 v21) w22 (kPu (eBin fSub .sub (nat_lit 0) v20 v22) w23 (kPu (eFieldA (nat_lit 3) v7) w24 (kRd (eLd1 v24) w25 (kPu (eFieldA (nat_lit 1) v7) w26 (kRd (eLd1 v26) w27 (kPu (eBin fSub .sub (nat_lit 0) v25 v27) w28 (kPu (eMv v23) w8 (kPu (eMv v28) w9 kEnd))))))))))))
 (kSeq (kSeq (kPu (eMv v8) w29 (kPu (eMv v5) w30 (kPu (eMv v9) w31 (kPu (eBin fQuo .quo (nat_lit 0) v30 v31) w32 (kPu (eBin fGtr .gtr (nat_lit 0) v29 v32) w33 kEnd)))))
 (kCond v33 (kSeq (kPu (eMv v1) w34 (kPu (eGen (.mx [t34, (.c (n6 (nat_lit 0)))])) w35 (kPu (eMv v35) w4 kEnd)))
 kRt) kEnd))
 (kPu (eMv v5) w36 (kPu (eMv v8) w37 (kPu (eMv v9) w38 (kPu (eBin fMul .mul (nat_lit 0) v37 v38) w39 (kPu (eBin fSub .sub (nat_lit 0) v36 v39) w40 (kPu (eMv v40) w5 kEnd))))))))))
 (kPu (eBin fAdd .add (nat_lit 0) v15 (gC (n6 (nat_lit 1)))) w41 (kPu (eMv v41) w15 kEnd))))))))
 (kSeq (kPu (eMv v1) w42 (kPu (eGen (.mx [t42, (.c (n6 (nat_lit 0)))])) w43 (kPu (eMv v5) w44 (kPu (eBin fSub .sub (nat_lit 0) v43 v44) w45 (kPu (eMv v45) w4 kEnd)))))
 kRt)))), none⟩
noncomputable def G9 : G := ⟨(nat_lit 11), Tr.fill undefV (nat_lit 11) (nat_lit 11), (rOne v6), (kSeq (kAl (eA (.box t1 (nat_lit 2))) w4 (kAl (eA (.box t2 (nat_lit 2))) w5 (kPu (eMv (gC (.b false))) w6 kEnd)))
 (kSeq (kPu (eMv v0) w7 (kCall q13 [v7] w8 (kPu (eGen (.mkF q20 [t4, t5])) w9 (kCall q19 [v8, v9] w10 (kPu (eMv v10) w6 kEnd)))))
 kRt)), none⟩
noncomputable def G10 : G := ⟨(nat_lit 10), Tr.fill undefV (nat_lit 10) (nat_lit 10), (rOne v4), (kSeq (kPu (eMv (gC (.b false))) w4 kEnd)
 (kSeq (kPu (eMv v0) w5 (kCall q6 [v5] w6 (kPu (eMv v1) w7 (kCall q6 [v7] w8 (kCall q21 [v6, v8] w9 (kPu (eMv v9) w4 kEnd))))))
 kRt)), none⟩
noncomputable def G11 : G := ⟨(nat_lit 35), Tr.fill undefV (nat_lit 35) (nat_lit 35), (rOne v2), (kSeq (kAl (eA (.box t0 (nat_lit 27))) w1 (kPu (eMv (gC (.b false))) w2 kEnd))
 (kSeq (kPu (eFieldA (nat_lit 0) v1) w3 (kRd (eLd1 v3) w4 (kPu (eBin fGeq .geq (nat_lit 0) v4 (gC (n6 (nat_lit 0)))) w5 (kPu (eMv v5) w6 (kGd v6 true (kPu (eFieldA (nat_lit 1) v1) w7) w7 (kGd v6 true (kRd (eLd1 v7) w8) w8 (kGd v6 true (kPu (eBin fGeq .geq (nat_lit 0) v8 (gC (n6 (nat_lit 0)))) w9) w9 (kPu (eGen (.pick t6 t9 (.c (.b false)))) w10 (kPu (eMv v10) w11 (kGd v11 true (kPu (eFieldA (nat_lit 0) v1) w12) w12 (kGd v11 true (kRd (eLd1 v12) w13) w13 (kGd v11 true (kPu (eFieldA (nat_lit 2) v1) w14) w14 (kGd v11 true (kRd (eLd1 v14) w15) w15 (kGd v11 true (kPu (eBin fLss .lss (nat_lit 0) v13 v15) w16) w16 (kPu (eGen (.pick t11 t16 (.c (.b false)))) w17 (kPu (eMv v17) w18 (kGd v18 true (kPu (eFieldA (nat_lit 1) v1) w19) w19 (kGd v18 true (kRd (eLd1 v19) w20) w20 (kGd v18 true (kPu (eFieldA (nat_lit 3) v1) w21) w21 (kGd v18 true (kRd (eLd1 v21) w22) w22 (kGd v18 true (kPu (eBin fLss .lss (nat_lit 0) v20 v22) w23) w23 (kPu (eGen (.pick t18 t23 (.c (.b false)))) w24 (kPu (eMv v24) w25 (kGd v25 true (kPu (eFieldA (nat_lit 2) v1) w26) w26 (kGd v25 true (kRd (eLd1 v26) w27) w27 (kGd v25 true (kPu (eBin fLeq .leq (nat_lit 0) v27 (gC (n6 (nat_lit 4398046511104)))) w28) w28 (kPu (eGen (.pick t25 t28 (.c (.b false)))) w29 (kPu (eMv v29) w30 (kGd v30 true (kPu (eFieldA (nat_lit 3) v1) w31) w31 (kGd v30 true (kRd (eLd1 v31) w32) w32 (kGd v30 true (kPu (eBin fLeq .leq (nat_lit 0) v32 (gC (n6 (nat_lit 4398046511104)))) w33) w33 (kPu (eGen (.pick t30 t33 (.c (.b false)))) w34 (kPu (eMv v34) w2 kEnd)))))))))))))))))))))))))))))))))
 kRt)), none⟩
noncomputable def G12 : G := ⟨(nat_lit 8), Tr.fill undefV (nat_lit 8) (nat_lit 8), (rOne v2), (kSeq (kAl (eA (.box t0 (nat_lit 22))) w1 (kPu (eMv (gC .sl0)) w2 kEnd))
 (kSeq (kRd (eLd1 v1) w3 (kAl (eA (.buildSl [.sl0] (nat_lit 22) (nat_lit 1) (nat_lit 1) [((nat_lit 0), (nat_lit 1), t3)])) w4 (kCall q15 [v4] w5 (kPu (eGen (.mkF q22 [t1])) w6 (kCall q14 [v5, v6] w7 (kPu (eMv v7) w2 kEnd))))))
 kRt)), none⟩
noncomputable def G13 : G := ⟨(nat_lit 24), Tr.fill undefV (nat_lit 24) (nat_lit 24), (rOne v2), (kSeq (kPu (eMv (gC .sl0)) w2 kEnd)
 (kSeq (kPu (eMv (gC .sl0)) w3 kEnd)
 (kSeq (kSeq (kPu (eMv v0) w6 (kPu (eMv v0) w7 (kPu (eLenSl v7) w8 (kPu (eGen (.mn [t8, (.c (n6 (nat_lit 256)))])) w9 (kPu (eGen (.slSl (nat_lit 4) t6 none (some t9) none)) w10 (kPu (eLenSl v10) w11 (kPu (eMv (gC (n6 (nat_lit 0)))) w12 kEnd)))))))
 (kBlock (nat_lit 0) (kLoop (kSeq (kPu (eBin fLss .lss (nat_lit 0) v12 v11) w13 kEnd)
 (kSeq (kCond v13 kEnd (kExit (nat_lit 0)))
 (kSeq (kBlock (nat_lit 1) (kSeq (kPu (eIdxA (nat_lit 4) v10 v12) w14 (kRd (eLdA (nat_lit 4) v14) w15 (kAl (eA (.alloc [(n6 (nat_lit 0)), (n6 (nat_lit 0)), (n6 (nat_lit 0)), (n6 (nat_lit 0))] (nat_lit 27))) w5 (kHv (eStN (nat_lit 4) v5 v15) s0 kEnd))))
 (kSeq (kRd (eLdA (nat_lit 4) v5) w16 (kCall q11 [v16] w17 kEnd))
 (kCond v17 (kPu (eMv v3) w18 (kRd (eLdA (nat_lit 4) v5) w19 (kAl (eA (.buildSl [(n6 (nat_lit 0)), (n6 (nat_lit 0)), (n6 (nat_lit 0)), (n6 (nat_lit 0))] (nat_lit 27) (nat_lit 4) (nat_lit 1) [((nat_lit 0), (nat_lit 4), t19)])) w20 (kHv (eApp (nat_lit 4) (nat_lit 32) (nat_lit 27) v18 v20) w21 (kPu (eMv v21) w3 kEnd))))) kEnd))))
 (kPu (eBin fAdd .add (nat_lit 0) v12 (gC (n6 (nat_lit 1)))) w22 (kPu (eMv v22) w12 kEnd))))))))
 (kSeq (kPu (eMv v3) w23 (kPu (eMv v23) w2 kEnd))
 kRt)))), none⟩
noncomputable def G14 : G := ⟨(nat_lit 78), Tr.fill undefV (nat_lit 78) (nat_lit 78), (rOne v4), (kSeq (kPu (eMv (gC .sl0)) w4 kEnd)
 (kSeq (kPu (eMv (gC .sl0)) w5 kEnd)
 (kSeq (kPu (eMv (gC .sl0)) w6 kEnd)
 (kSeq (kPu (eMv (gC (n6 (nat_lit 0)))) w7 kEnd)
 (kSeq (kSeq (kPu (eMv (gC (n6 (nat_lit 0)))) w8 kEnd)
 (kBlock (nat_lit 0) (kLoop (kSeq (kSeq (kPu (eMv v8) w13 (kPu (eBin fAdd .add (nat_lit 0) v13 (gC (n6 (nat_lit 1)))) w14 (kPu (eMv v0) w15 (kPu (eLenSl v15) w16 (kPu (eBin fLss .lss (nat_lit 0) v14 v16) w17 kEnd)))))
 (kCond v17 kEnd (kExit (nat_lit 0))))
 (kSeq (kBlock (nat_lit 1) (kSeq (kPu (eMv v1) w20 (kPu (eMv v0) w21 (kPu (eMv v8) w22 (kPu (eIdxA (nat_lit 1) v21 v22) w23 (kRd (eLd1 v23) w24 (kHv (eHG (.callv t20 [t24])) w25 (kPu (eMv v25) w9 kEnd)))))))
 (kSeq (kSeq (kPu (eMv v9) w26 (kPu (eLenSl v26) w27 (kPu (eBin fGtr .gtr (nat_lit 0) v27 (gC (n6 (nat_lit 0)))) w28 (kPu (eMv v28) w29 (kGd v29 true (kPu (eMv v9) w30) w30 (kGd v29 true (kPu (eMv v6) w31) w31 (kGd v29 true (kCall q23 [v30, v31] w32) w32 (kPu (eGen (.pick t29 t32 (.c (.b false)))) w33 kEnd))))))))
 (kCond v33 (kSeq (kSeq (kPu (eMv v7) w34 (kPu (eMv v34) w10 kEnd))
 (kBlock (nat_lit 2) (kLoop (kSeq (kSeq (kPu (eMv v10) w35 (kPu (eMv v5) w36 (kPu (eLenSl v36) w37 (kPu (eBin fLss .lss (nat_lit 0) v35 v37) w38 kEnd))))
 (kCond v38 kEnd (kExit (nat_lit 2))))
 (kSeq (kBlock (nat_lit 3) (kPu (eMv v5) w41 (kPu (eMv v10) w42 (kPu (eMv v0) w43 (kPu (eMv v8) w44 (kPu (eBin fAdd .add (nat_lit 0) v44 (gC (n6 (nat_lit 1)))) w45 (kPu (eIdxA (nat_lit 1) v43 v45) w46 (kRd (eLd1 v46) w47 (kPu (eIdxA (nat_lit 4) v41 v42) w48 (kPu (eFieldA (nat_lit 2) v48) w49 (kHv (eSt1 v49 v47) s0 kEnd)))))))))))
 (kPu (eMv v10) w39 (kPu (eBin fAdd .add (nat_lit 0) v39 (gC (n6 (nat_lit 1)))) w40 (kPu (eMv v40) w10 kEnd))))))))
 (kExit (nat_lit 1))) kEnd))
 (kSeq (kPu (eMv v5) w50 (kPu (eLenSl v50) w51 (kPu (eMv v9) w52 (kPu (eMv v51) w7 (kPu (eMv v52) w6 kEnd)))))
 (kSeq (kPu (eMv v9) w53 (kPu (eLenSl v53) w54 (kPu (eMv (gC (n6 (nat_lit 0)))) w55 kEnd)))
 (kBlock (nat_lit 4) (kLoop (kSeq (kPu (eBin fLss .lss (nat_lit 0) v55 v54) w56 kEnd)
 (kSeq (kCond v56 kEnd (kExit (nat_lit 4)))
 (kSeq (kBlock (nat_lit 5) (kSeq (kPu (eIdxA (nat_lit 2) v53 v55) w57 (kRd (eLdA (nat_lit 2) v57) w58 (kAl (eA (.alloc [(n6 (nat_lit 0)), (n6 (nat_lit 0))] (nat_lit 44))) w12 (kHv (eStN (nat_lit 2) v12 v58) s0 kEnd))))
 (kPu (eMv v5) w59 (kPu (eMv v0) w60 (kPu (eMv v8) w61 (kPu (eIdxA (nat_lit 1) v60 v61) w62 (kRd (eLd1 v62) w63 (kPu (eFieldA (nat_lit 0) v12) w64 (kRd (eLd1 v64) w65 (kPu (eMv v0) w66 (kPu (eMv v8) w67 (kPu (eBin fAdd .add (nat_lit 0) v67 (gC (n6 (nat_lit 1)))) w68 (kPu (eIdxA (nat_lit 1) v66 v68) w69 (kRd (eLd1 v69) w70 (kPu (eFieldA (nat_lit 1) v12) w71 (kRd (eLd1 v71) w72 (kPu (eGen (.build [(n6 (nat_lit 0)), (n6 (nat_lit 0)), (n6 (nat_lit 0)), (n6 (nat_lit 0))] [((nat_lit 0), (nat_lit 1), t63), ((nat_lit 1), (nat_lit 1), t65), ((nat_lit 2), (nat_lit 1), t70), ((nat_lit 3), (nat_lit 1), t72)])) w73 (kAlD (eA (.buildSl [(n6 (nat_lit 0)), (n6 (nat_lit 0)), (n6 (nat_lit 0)), (n6 (nat_lit 0))] (nat_lit 27) (nat_lit 4) (nat_lit 1) [((nat_lit 0), (nat_lit 4), t73)])) (memJ q74) w74 (kHv (eApp (nat_lit 4) (nat_lit 32) (nat_lit 27) v59 v74) w75 (kPu (eMv v75) w5 kEnd))))))))))))))))))))
 (kPu (eBin fAdd .add (nat_lit 0) v55 (gC (n6 (nat_lit 1)))) w76 (kPu (eMv v76) w55 kEnd))))))))))))
 (kPu (eMv v8) w18 (kPu (eBin fAdd .add (nat_lit 0) v18 (gC (n6 (nat_lit 1)))) w19 (kPu (eMv v19) w8 kEnd))))))))
 (kSeq (kPu (eMv v5) w77 (kPu (eMv v77) w4 kEnd))
 kRt)))))), none⟩
noncomputable def G15 : G := ⟨(nat_lit 33), Tr.fill undefV (nat_lit 33) (nat_lit 33), (rOne v2), (kSeq (kPu (eMv (gC .sl0)) w2 kEnd)
 (kSeq (kPu (eMv (gC .sl0)) w3 kEnd)
 (kSeq (kSeq (kPu (eMv v0) w8 (kPu (eLenSl v8) w9 (kPu (eMv (gC (n6 (nat_lit 0)))) w10 kEnd)))
 (kBlock (nat_lit 0) (kLoop (kSeq (kPu (eBin fLss .lss (nat_lit 0) v10 v9) w11 kEnd)
 (kSeq (kCond v11 kEnd (kExit (nat_lit 0)))
 (kSeq (kBlock (nat_lit 1) (kSeq (kPu (eIdxA (nat_lit 1) v8 v10) w12 (kRd (eLd1 v12) w13 (kPu (eMv v13) w5 kEnd)))
 (kSeq (kPu (eMv v5) w14 (kPu (eLenSl v14) w15 (kPu (eMv (gC (n6 (nat_lit 0)))) w16 kEnd)))
 (kBlock (nat_lit 2) (kLoop (kSeq (kPu (eBin fLss .lss (nat_lit 0) v16 v15) w17 kEnd)
 (kSeq (kCond v17 kEnd (kExit (nat_lit 2)))
 (kSeq (kBlock (nat_lit 3) (kSeq (kPu (eIdxA (nat_lit 4) v14 v16) w18 (kRd (eLdA (nat_lit 4) v18) w19 (kAl (eA (.alloc [(n6 (nat_lit 0)), (n6 (nat_lit 0)), (n6 (nat_lit 0)), (n6 (nat_lit 0))] (nat_lit 27))) w7 (kHv (eStN (nat_lit 4) v7 v19) s0 kEnd))))
 (kPu (eMv v3) w20 (kPu (eFieldA (nat_lit 0) v7) w21 (kRd (eLd1 v21) w22 (kPu (eFieldA (nat_lit 2) v7) w23 (kRd (eLd1 v23) w24 (kAl (eA (.buildSl [(n6 (nat_lit 0)), (n6 (nat_lit 0))] (nat_lit 2) (nat_lit 1) (nat_lit 2) [((nat_lit 0), (nat_lit 1), t22), ((nat_lit 1), (nat_lit 1), t24)])) w25 (kHv (eApp (nat_lit 1) (nat_lit 8) (nat_lit 2) v20 v25) w26 (kPu (eMv v26) w3 kEnd))))))))))
 (kPu (eBin fAdd .add (nat_lit 0) v16 (gC (n6 (nat_lit 1)))) w27 (kPu (eMv v27) w16 kEnd))))))))))
 (kPu (eBin fAdd .add (nat_lit 0) v10 (gC (n6 (nat_lit 1)))) w28 (kPu (eMv v28) w10 kEnd))))))))
 (kSeq (kPu (eMv v3) w29 (kCall q24 [v29] w30 kEnd))
 (kSeq (kPu (eMv v3) w31 (kCall q25 [v31] w32 (kPu (eMv v32) w2 kEnd)))
 kRt))))), none⟩
noncomputable def G16 : G := ⟨(nat_lit 12), Tr.fill undefV (nat_lit 12) (nat_lit 12), (rOne v4), (kSeq (kPu (eMv (gC .sl0)) w4 kEnd)
 (kSeq (kRd (eLd1 v1) w5 (kPu (eMv v0) w6 (kRd (eLd1 v2) w8 (kPu (eMv v0) w9 (kItG ⟨⟨(some q7), (.hv (.call q18 [t5, t6])), none⟩, [], [(⟨(some q8), (.rd (.load false (nat_lit 1) t2)), none⟩, [])]⟩ (kCall q18 [v8, v9] w10 (kCall q17 [v7, v10] w11 (kPu (eMv v11) w4 kEnd))))))))
 kRt)), none⟩
noncomputable def G17 : G := ⟨(nat_lit 65), Tr.fill undefV (nat_lit 65) (nat_lit 65), (rOne v4), (kSeq (kPu (eMv (gC .sl0)) w4 kEnd)
 (kSeq (kPu (eMv (gC .sl0)) w5 kEnd)
 (kSeq (kSeq (kPu (eMv v0) w10 (kPu (eLenSl v10) w11 (kPu (eMv (gC (n6 (nat_lit 0)))) w12 kEnd)))
 (kBlock (nat_lit 0) (kLoop (kSeq (kPu (eBin fLss .lss (nat_lit 0) v12 v11) w13 kEnd)
 (kSeq (kCond v13 kEnd (kExit (nat_lit 0)))
 (kSeq (kBlock (nat_lit 1) (kSeq (kPu (eIdxA (nat_lit 2) v10 v12) w14 (kRd (eLdA (nat_lit 2) v14) w15 (kAl (eA (.alloc [(n6 (nat_lit 0)), (n6 (nat_lit 0))] (nat_lit 44))) w7 (kHv (eStN (nat_lit 2) v7 v15) s0 kEnd))))
 (kSeq (kSeq (kPu (eMv v1) w16 (kPu (eLenSl v16) w17 (kPu (eMv (gC (n6 (nat_lit 0)))) w18 kEnd)))
 (kBlock (nat_lit 2) (kLoop (kSeq (kPu (eBin fLss .lss (nat_lit 0) v18 v17) w19 kEnd)
 (kSeq (kCond v19 kEnd (kExit (nat_lit 2)))
 (kSeq (kBlock (nat_lit 3) (kSeq (kPu (eIdxA (nat_lit 2) v16 v18) w20 (kRd (eLdA (nat_lit 2) v20) w21 (kAl (eA (.alloc [(n6 (nat_lit 0)), (n6 (nat_lit 0))] (nat_lit 44))) w9 (kHv (eStN (nat_lit 2) v9 v21) s0 kEnd))))
 (kSeq (kSeq (kPu (eFieldA (nat_lit 1) v9) w22 (kRd (eLd1 v22) w23 (kPu (eFieldA (nat_lit 0) v7) w24 (kRd (eLd1 v24) w25 (kPu (eBin fLeq .leq (nat_lit 0) v23 v25) w26 (kPu (eMv v26) w27 (kGd v27 false (kPu (eFieldA (nat_lit 0) v9) w28) w28 (kGd v27 false (kRd (eLd1 v28) w29) w29 (kGd v27 false (kPu (eFieldA (nat_lit 1) v7) w30) w30 (kGd v27 false (kRd (eLd1 v30) w31) w31 (kGd v27 false (kPu (eBin fGeq .geq (nat_lit 0) v29 v31) w32) w32 (kPu (eGen (.pick t27 (.c (.b true)) t32)) w33 kEnd))))))))))))
 (kCond v33 (kExit (nat_lit 3)) kEnd))
 (kSeq (kSeq (kPu (eFieldA (nat_lit 0) v9) w34 (kRd (eLd1 v34) w35 (kPu (eFieldA (nat_lit 0) v7) w36 (kRd (eLd1 v36) w37 (kPu (eBin fGtr .gtr (nat_lit 0) v35 v37) w38 kEnd)))))
 (kCond v38 (kPu (eMv v5) w39 (kPu (eFieldA (nat_lit 0) v7) w40 (kRd (eLd1 v40) w41 (kPu (eFieldA (nat_lit 0) v9) w42 (kRd (eLd1 v42) w43 (kPu (eGen (.build [(n6 (nat_lit 0)), (n6 (nat_lit 0))] [((nat_lit 0), (nat_lit 1), t41), ((nat_lit 1), (nat_lit 1), t43)])) w44 (kAl (eA (.buildSl [(n6 (nat_lit 0)), (n6 (nat_lit 0))] (nat_lit 44) (nat_lit 2) (nat_lit 1) [((nat_lit 0), (nat_lit 2), t44)])) w45 (kHv (eApp (nat_lit 2) (nat_lit 16) (nat_lit 44) v39 v45) w46 (kPu (eMv v46) w5 kEnd))))))))) kEnd))
 (kPu (eFieldA (nat_lit 1) v9) w47 (kRd (eLd1 v47) w48 (kPu (eFieldA (nat_lit 1) v7) w49 (kRd (eLd1 v49) w50 (kPu (eGen (.mn [t48, t50])) w51 (kPu (eFieldA (nat_lit 0) v7) w52 (kHv (eSt1 v52 v51) s0 kEnd)))))))))))
 (kPu (eBin fAdd .add (nat_lit 0) v18 (gC (n6 (nat_lit 1)))) w53 (kPu (eMv v53) w18 kEnd))))))))
 (kSeq (kPu (eFieldA (nat_lit 0) v7) w54 (kRd (eLd1 v54) w55 (kPu (eFieldA (nat_lit 1) v7) w56 (kRd (eLd1 v56) w57 (kPu (eBin fLss .lss (nat_lit 0) v55 v57) w58 kEnd)))))
 (kCond v58 (kPu (eMv v5) w59 (kRd (eLdA (nat_lit 2) v7) w60 (kAl (eA (.buildSl [(n6 (nat_lit 0)), (n6 (nat_lit 0))] (nat_lit 44) (nat_lit 2) (nat_lit 1) [((nat_lit 0), (nat_lit 2), t60)])) w61 (kHv (eApp (nat_lit 2) (nat_lit 16) (nat_lit 44) v59 v61) w62 (kPu (eMv v62) w5 kEnd))))) kEnd)))))
 (kPu (eBin fAdd .add (nat_lit 0) v12 (gC (n6 (nat_lit 1)))) w63 (kPu (eMv v63) w12 kEnd))))))))
 (kSeq (kPu (eMv v5) w64 (kPu (eMv v64) w4 kEnd))
 kRt)))), none⟩
noncomputable def G18 : G := ⟨(nat_lit 80), Tr.fill undefV (nat_lit 80) (nat_lit 80), (rOne v4), (kSeq (kPu (eMv (gC .sl0)) w4 kEnd)
 (kSeq (kPu (eMv (gC .sl0)) w5 kEnd)
 (kSeq (kSeq (kPu (eMv v0) w12 (kPu (eLenSl v12) w13 (kPu (eMv (gC (n6 (nat_lit 0)))) w14 kEnd)))
 (kBlock (nat_lit 0) (kLoop (kSeq (kPu (eBin fLss .lss (nat_lit 0) v14 v13) w15 kEnd)
 (kSeq (kCond v15 kEnd (kExit (nat_lit 0)))
 (kSeq (kBlock (nat_lit 1) (kSeq (kPu (eIdxA (nat_lit 4) v12 v14) w16 (kRd (eLdA (nat_lit 4) v16) w17 (kAl (eA (.alloc [(n6 (nat_lit 0)), (n6 (nat_lit 0)), (n6 (nat_lit 0)), (n6 (nat_lit 0))] (nat_lit 27))) w7 (kHv (eStN (nat_lit 4) v7 v17) s0 kEnd))))
 (kSeq (kPu (eFieldA (nat_lit 0) v7) w18 (kRd (eLd1 v18) w19 (kPu (eMv v1) w20 (kPu (eBin fLeq .leq (nat_lit 0) v19 v20) w21 (kPu (eMv v21) w22 (kGd v22 true (kPu (eMv v1) w23) w23 (kGd v22 true (kPu (eFieldA (nat_lit 2) v7) w24) w24 (kGd v22 true (kRd (eLd1 v24) w25) w25 (kGd v22 true (kPu (eBin fLss .lss (nat_lit 0) v23 v25) w26) w26 (kPu (eGen (.pick t22 t26 (.c (.b false)))) w27 kEnd))))))))))
 (kCond v27 (kPu (eMv v5) w28 (kPu (eFieldA (nat_lit 1) v7) w29 (kRd (eLd1 v29) w30 (kPu (eFieldA (nat_lit 3) v7) w31 (kRd (eLd1 v31) w32 (kPu (eGen (.build [(n6 (nat_lit 0)), (n6 (nat_lit 0))] [((nat_lit 0), (nat_lit 1), t30), ((nat_lit 1), (nat_lit 1), t32)])) w33 (kAl (eA (.buildSl [(n6 (nat_lit 0)), (n6 (nat_lit 0))] (nat_lit 44) (nat_lit 2) (nat_lit 1) [((nat_lit 0), (nat_lit 2), t33)])) w34 (kHv (eApp (nat_lit 2) (nat_lit 16) (nat_lit 44) v28 v34) w35 (kPu (eMv v35) w5 kEnd))))))))) kEnd))))
 (kPu (eBin fAdd .add (nat_lit 0) v14 (gC (n6 (nat_lit 1)))) w36 (kPu (eMv v36) w14 kEnd))))))))
 (kSeq (kPu (eMv v5) w37 (kCall q26 [v37, (gC (.f q27 []))] w38 kEnd))
 (kSeq (kPu (eMv (gC .sl0)) w8 kEnd)
 (kSeq (kSeq (kPu (eMv v5) w39 (kPu (eLenSl v39) w40 (kPu (eMv (gC (n6 (nat_lit 0)))) w41 kEnd)))
 (kBlock (nat_lit 2) (kLoop (kSeq (kPu (eBin fLss .lss (nat_lit 0) v41 v40) w42 kEnd)
 (kSeq (kCond v42 kEnd (kExit (nat_lit 2)))
 (kSeq (kBlock (nat_lit 3) (kSeq (kPu (eIdxA (nat_lit 2) v39 v41) w43 (kRd (eLdA (nat_lit 2) v43) w44 (kAl (eA (.alloc [(n6 (nat_lit 0)), (n6 (nat_lit 0))] (nat_lit 44))) w10 (kHv (eStN (nat_lit 2) v10 v44) s0 kEnd))))
 (kSeq (kSeq (kPu (eMv v8) w45 (kPu (eLenSl v45) w46 (kPu (eMv v46) w11 kEnd)))
 (kSeq (kPu (eMv v11) w47 (kPu (eBin fGtr .gtr (nat_lit 0) v47 (gC (n6 (nat_lit 0)))) w48 (kPu (eMv v48) w49 (kGd v49 true (kPu (eFieldA (nat_lit 0) v10) w50) w50 (kGd v49 true (kRd (eLd1 v50) w51) w51 (kGd v49 true (kPu (eMv v8) w52) w52 (kGd v49 true (kPu (eMv v11) w53) w53 (kGd v49 true (kPu (eBin fSub .sub (nat_lit 0) v53 (gC (n6 (nat_lit 1)))) w54) w54 (kGd v49 true (kPu (eIdxA (nat_lit 2) v52 v54) w55) w55 (kGd v49 true (kPu (eFieldA (nat_lit 1) v55) w56) w56 (kGd v49 true (kRd (eLd1 v56) w57) w57 (kGd v49 true (kPu (eBin fLeq .leq (nat_lit 0) v51 v57) w58) w58 (kPu (eGen (.pick t49 t58 (.c (.b false)))) w59 kEnd)))))))))))))
 (kCond v59 (kSeq (kPu (eMv v8) w60 (kPu (eMv v11) w61 (kPu (eBin fSub .sub (nat_lit 0) v61 (gC (n6 (nat_lit 1)))) w62 (kPu (eMv v8) w63 (kPu (eMv v11) w64 (kPu (eBin fSub .sub (nat_lit 0) v64 (gC (n6 (nat_lit 1)))) w65 (kPu (eIdxA (nat_lit 2) v63 v65) w66 (kPu (eFieldA (nat_lit 1) v66) w67 (kRd (eLd1 v67) w68 (kPu (eFieldA (nat_lit 1) v10) w69 (kRd (eLd1 v69) w70 (kPu (eGen (.mx [t68, t70])) w71 (kPu (eIdxA (nat_lit 2) v60 v62) w72 (kPu (eFieldA (nat_lit 1) v72) w73 (kHv (eSt1 v73 v71) s0 kEnd)))))))))))))))
 (kExit (nat_lit 3))) kEnd)))
 (kPu (eMv v8) w74 (kRd (eLdA (nat_lit 2) v10) w75 (kAl (eA (.buildSl [(n6 (nat_lit 0)), (n6 (nat_lit 0))] (nat_lit 44) (nat_lit 2) (nat_lit 1) [((nat_lit 0), (nat_lit 2), t75)])) w76 (kHv (eApp (nat_lit 2) (nat_lit 16) (nat_lit 44) v74 v76) w77 (kPu (eMv v77) w8 kEnd))))))))
 (kPu (eBin fAdd .add (nat_lit 0) v41 (gC (n6 (nat_lit 1)))) w78 (kPu (eMv v78) w41 kEnd))))))))
 (kSeq (kPu (eMv v8) w79 (kPu (eMv v79) w4 kEnd))
 kRt))))))), none⟩
noncomputable def G19 : G := ⟨(nat_lit 9), Tr.fill undefV (nat_lit 9) (nat_lit 9), (rOne v4), (kSeq (kPu (eMv (gC (.b false))) w4 kEnd)
 (kSeq (kPu (eMv v0) w5 (kPu (eMv v1) w6 (kCall q28 [v5, v6] w7 (kPu (eBin fGeq .geq (nat_lit 0) v7 (gC (n6 (nat_lit 0)))) w8 (kPu (eMv v8) w4 kEnd)))))
 kRt)), none⟩
noncomputable def G20 : G := ⟨(nat_lit 27), Tr.fill undefV (nat_lit 27) (nat_lit 27), (rOne v4), (kSeq (kAl (eA (.box t0 (nat_lit 27))) w3 (kPu (eMv (gC (.b false))) w4 kEnd))
 (kSeq (kPu (eFieldA (nat_lit 0) v3) w5 (kRd (eLd1 v5) w6 (kRd (eLd1 v1) w7 (kPu (eBin fLeq .leq (nat_lit 0) v6 v7) w8 (kPu (eMv v8) w9 (kGd v9 true (kRd (eLd1 v1) w10) w10 (kGd v9 true (kPu (eFieldA (nat_lit 2) v3) w11) w11 (kGd v9 true (kRd (eLd1 v11) w12) w12 (kGd v9 true (kPu (eBin fLss .lss (nat_lit 0) v10 v12) w13) w13 (kPu (eGen (.pick t9 t13 (.c (.b false)))) w14 (kPu (eMv v14) w15 (kGd v15 true (kPu (eFieldA (nat_lit 1) v3) w16) w16 (kGd v15 true (kRd (eLd1 v16) w17) w17 (kGd v15 true (kRd (eLd1 v2) w18) w18 (kGd v15 true (kPu (eBin fLeq .leq (nat_lit 0) v17 v18) w19) w19 (kPu (eGen (.pick t15 t19 (.c (.b false)))) w20 (kPu (eMv v20) w21 (kGd v21 true (kRd (eLd1 v2) w22) w22 (kGd v21 true (kPu (eFieldA (nat_lit 3) v3) w23) w23 (kGd v21 true (kRd (eLd1 v23) w24) w24 (kGd v21 true (kPu (eBin fLss .lss (nat_lit 0) v22 v24) w25) w25 (kPu (eGen (.pick t21 t25 (.c (.b false)))) w26 (kPu (eMv v26) w4 kEnd)))))))))))))))))))))))
 kRt)), none⟩
noncomputable def G21 : G := ⟨(nat_lit 26), Tr.fill undefV (nat_lit 26) (nat_lit 26), (rOne v4), (kSeq (kPu (eMv (gC (.b false))) w4 kEnd)
 (kSeq (kSeq (kPu (eMv v0) w6 (kPu (eLenSl v6) w7 (kPu (eMv v1) w8 (kPu (eLenSl v8) w9 (kPu (eBin fNeq .neq (nat_lit 0) v7 v9) w10 kEnd)))))
 (kCond v10 (kSeq (kPu (eMv (gC (.b false))) w4 kEnd)
 kRt) kEnd))
 (kSeq (kSeq (kPu (eMv v0) w11 (kPu (eLenSl v11) w12 (kPu (eMv (gC (n6 (nat_lit 0)))) w13 kEnd)))
 (kBlock (nat_lit 0) (kLoop (kSeq (kPu (eBin fLss .lss (nat_lit 0) v13 v12) w14 kEnd)
 (kSeq (kCond v14 kEnd (kExit (nat_lit 0)))
 (kSeq (kBlock (nat_lit 1) (kSeq (kPu (eMv v13) w15 (kPu (eMv v15) w5 kEnd))
 (kSeq (kPu (eMv v0) w16 (kPu (eMv v5) w17 (kPu (eIdxA (nat_lit 4) v16 v17) w18 (kRd (eLdA (nat_lit 4) v18) w19 (kPu (eMv v1) w20 (kPu (eMv v5) w21 (kPu (eIdxA (nat_lit 4) v20 v21) w22 (kRd (eLdA (nat_lit 4) v22) w23 (kPu (eGen (.eqS true [(nat_lit 1), (nat_lit 1), (nat_lit 1), (nat_lit 1)] t19 t23)) w24 kEnd)))))))))
 (kCond v24 (kSeq (kPu (eMv (gC (.b false))) w4 kEnd)
 kRt) kEnd))))
 (kPu (eBin fAdd .add (nat_lit 0) v13 (gC (n6 (nat_lit 1)))) w25 (kPu (eMv v25) w13 kEnd))))))))
 (kSeq (kPu (eMv (gC (.b true))) w4 kEnd)
 kRt)))), none⟩
noncomputable def G22 : G := ⟨(nat_lit 7), Tr.fill undefV (nat_lit 7) (nat_lit 7), (rOne v3), (kSeq (kPu (eMv (gC .sl0)) w3 kEnd)
 (kSeq (kRd (eLd1 v1) w4 (kPu (eMv v0) w5 (kCall q18 [v4, v5] w6 (kPu (eMv v6) w3 kEnd))))
 kRt)), none⟩
noncomputable def G23 : G := ⟨(nat_lit 26), Tr.fill undefV (nat_lit 26) (nat_lit 26), (rOne v4), (kSeq (kPu (eMv (gC (.b false))) w4 kEnd)
 (kSeq (kSeq (kPu (eMv v0) w6 (kPu (eLenSl v6) w7 (kPu (eMv v1) w8 (kPu (eLenSl v8) w9 (kPu (eBin fNeq .neq (nat_lit 0) v7 v9) w10 kEnd)))))
 (kCond v10 (kSeq (kPu (eMv (gC (.b false))) w4 kEnd)
 kRt) kEnd))
 (kSeq (kSeq (kPu (eMv v0) w11 (kPu (eLenSl v11) w12 (kPu (eMv (gC (n6 (nat_lit 0)))) w13 kEnd)))
 (kBlock (nat_lit 0) (kLoop (kSeq (kPu (eBin fLss .lss (nat_lit 0) v13 v12) w14 kEnd)
 (kSeq (kCond v14 kEnd (kExit (nat_lit 0)))
 (kSeq (kBlock (nat_lit 1) (kSeq (kPu (eMv v13) w15 (kPu (eMv v15) w5 kEnd))
 (kSeq (kPu (eMv v0) w16 (kPu (eMv v5) w17 (kPu (eIdxA (nat_lit 2) v16 v17) w18 (kRd (eLdA (nat_lit 2) v18) w19 (kPu (eMv v1) w20 (kPu (eMv v5) w21 (kPu (eIdxA (nat_lit 2) v20 v21) w22 (kRd (eLdA (nat_lit 2) v22) w23 (kPu (eGen (.eqS true [(nat_lit 1), (nat_lit 1)] t19 t23)) w24 kEnd)))))))))
 (kCond v24 (kSeq (kPu (eMv (gC (.b false))) w4 kEnd)
 kRt) kEnd))))
 (kPu (eBin fAdd .add (nat_lit 0) v13 (gC (n6 (nat_lit 1)))) w25 (kPu (eMv v25) w13 kEnd))))))))
 (kSeq (kPu (eMv (gC (.b true))) w4 kEnd)
 kRt)))), none⟩
noncomputable def G24 : G := ⟨(nat_lit 11), Tr.fill undefV (nat_lit 11) (nat_lit 11), (rGen []), (kSeq (kPu (eMv v0) w3 (kPu (eLenSl v3) w4 (kPu (eMv v4) w2 kEnd)))
 (kPu (eMv v0) w5 (kPu (eMv v2) w6 (kPu (eMv v2) w7 (kPu (eConv .u64 v7) w8 (kCall q30 [v8] w9 (kCall q29 [v5, (gC (n6 (nat_lit 0))), v6, v9] w10 kEnd))))))), none⟩
noncomputable def G25 : G := ⟨(nat_lit 61), Tr.fill undefV (nat_lit 61) (nat_lit 61), (rOne v2), (kSeq (kPu (eMv (gC .sl0)) w2 kEnd)
 (kSeq (kSeq (kPu (eMv v0) w6 (kPu (eLenSl v6) w7 (kPu (eBin fLss .lss (nat_lit 0) v7 (gC (n6 (nat_lit 2)))) w8 kEnd)))
 (kCond v8 (kSeq (kPu (eMv v0) w9 (kPu (eMv v9) w2 kEnd))
 kRt) kEnd))
 (kSeq (kSeq (kPu (eMv (gC (n6 (nat_lit 1)))) w3 kEnd)
 (kBlock (nat_lit 0) (kLoop (kSeq (kSeq (kPu (eMv v3) w10 (kPu (eMv v0) w11 (kPu (eLenSl v11) w12 (kPu (eBin fLss .lss (nat_lit 0) v10 v12) w13 kEnd))))
 (kCond v13 kEnd (kExit (nat_lit 0))))
 (kSeq (kBlock (nat_lit 1) (kSeq (kPu (eMv v0) w16 (kPu (eMv v3) w17 (kPu (eIdxA (nat_lit 1) v16 v17) w18 (kRd (eLd1 v18) w19 (kPu (eMv v0) w20 (kPu (eMv v3) w21 (kPu (eBin fSub .sub (nat_lit 0) v21 (gC (n6 (nat_lit 1)))) w22 (kPu (eIdxA (nat_lit 1) v20 v22) w23 (kRd (eLd1 v23) w24 (kPu (eBin fEql .eql (nat_lit 0) v19 v24) w25 kEnd))))))))))
 (kCond v25 (kSeq (kPu (eMv v0) w26 (kPu (eMv v3) w27 (kPu (eGen (.slSl (nat_lit 1) t26 (some t27) none none)) w28 (kPu (eMv v28) w4 kEnd))))
 (kSeq (kSeq (kPu (eMv (gC (n6 (nat_lit 1)))) w5 kEnd)
 (kBlock (nat_lit 2) (kLoop (kSeq (kSeq (kPu (eMv v5) w29 (kPu (eMv v4) w30 (kPu (eLenSl v30) w31 (kPu (eBin fLss .lss (nat_lit 0) v29 v31) w32 kEnd))))
 (kCond v32 kEnd (kExit (nat_lit 2))))
 (kSeq (kBlock (nat_lit 3) (kSeq (kPu (eMv v4) w35 (kPu (eMv v5) w36 (kPu (eIdxA (nat_lit 1) v35 v36) w37 (kRd (eLd1 v37) w38 (kPu (eMv v4) w39 (kPu (eMv v5) w40 (kPu (eBin fSub .sub (nat_lit 0) v40 (gC (n6 (nat_lit 1)))) w41 (kPu (eIdxA (nat_lit 1) v39 v41) w42 (kRd (eLd1 v42) w43 (kPu (eBin fNeq .neq (nat_lit 0) v38 v43) w44 kEnd))))))))))
 (kCond v44 (kSeq (kPu (eMv v0) w45 (kPu (eMv v3) w46 (kPu (eMv v4) w47 (kPu (eMv v5) w48 (kPu (eIdxA (nat_lit 1) v47 v48) w49 (kRd (eLd1 v49) w50 (kPu (eIdxA (nat_lit 1) v45 v46) w51 (kHv (eSt1 v51 v50) s0 kEnd))))))))
 (kPu (eMv v3) w52 (kPu (eBin fAdd .add (nat_lit 0) v52 (gC (n6 (nat_lit 1)))) w53 (kPu (eMv v53) w3 kEnd)))) kEnd)))
 (kPu (eMv v5) w33 (kPu (eBin fAdd .add (nat_lit 0) v33 (gC (n6 (nat_lit 1)))) w34 (kPu (eMv v34) w5 kEnd))))))))
 (kSeq (kPu (eMv v0) w54 (kPu (eMv v3) w55 (kPu (eGen (.slSl (nat_lit 1) t54 (some t55) none none)) w56 (kHv (eHG (.clear (nat_lit 1) [(n6 (nat_lit 0))] t56)) s0 kEnd))))
 (kSeq (kPu (eMv v0) w57 (kPu (eMv v3) w58 (kPu (eGen (.slSl (nat_lit 1) t57 none (some t58) none)) w59 (kPu (eMv v59) w2 kEnd))))
 kRt)))) kEnd)))
 (kPu (eMv v3) w14 (kPu (eBin fAdd .add (nat_lit 0) v14 (gC (n6 (nat_lit 1)))) w15 (kPu (eMv v15) w3 kEnd))))))))
 (kSeq (kPu (eMv v0) w60 (kPu (eMv v60) w2 kEnd))
 kRt)))), none⟩
noncomputable def G26 : G := ⟨(nat_lit 14), Tr.fill undefV (nat_lit 14) (nat_lit 14), (rGen []), (kSeq (kPu (eMv v0) w5 (kPu (eLenSl v5) w6 (kPu (eMv v6) w4 kEnd)))
 (kPu (eMv v0) w7 (kPu (eMv v4) w8 (kPu (eMv v4) w9 (kPu (eConv .u64 v9) w10 (kCall q30 [v10] w11 (kPu (eMv v1) w12 (kCall q31 [v7, (gC (n6 (nat_lit 0))), v8, v11, v12] w13 kEnd)))))))), none⟩
noncomputable def G27 : G := ⟨(nat_lit 12), Tr.fill undefV (nat_lit 12) (nat_lit 12), (rOne v4), (kSeq (kAl (eA (.box t0 (nat_lit 44))) w2 (kAl (eA (.box t1 (nat_lit 44))) w3 (kPu (eMv (gC (n6 (nat_lit 0)))) w4 kEnd)))
 (kSeq (kPu (eFieldA (nat_lit 0) v2) w5 (kRd (eLd1 v5) w6 (kPu (eFieldA (nat_lit 0) v3) w7 (kRd (eLd1 v7) w8 (kPu (eBin fSub .sub (nat_lit 0) v6 v8) w9 (kPu (eGen (.mx [t9, (.c (.i .i64 (.negSucc (nat_lit 0))))])) w10 (kPu (eGen (.mn [t10, (.c (n6 (nat_lit 1)))])) w11 (kPu (eMv v11) w4 kEnd))))))))
 kRt)), none⟩
noncomputable def G28 : G := ⟨(nat_lit 19), Tr.fill undefV (nat_lit 19) (nat_lit 19), (rOne v4), (kSeq (kPu (eMv (gC (n6 (nat_lit 0)))) w4 kEnd)
 (kSeq (kSeq (kPu (eMv v0) w6 (kPu (eLenSl v6) w7 (kPu (eMv (gC (n6 (nat_lit 0)))) w8 kEnd)))
 (kBlock (nat_lit 0) (kLoop (kSeq (kPu (eBin fLss .lss (nat_lit 0) v8 v7) w9 kEnd)
 (kSeq (kCond v9 kEnd (kExit (nat_lit 0)))
 (kSeq (kBlock (nat_lit 1) (kSeq (kPu (eMv v8) w10 (kPu (eMv v10) w5 kEnd))
 (kSeq (kPu (eMv v1) w11 (kPu (eMv v0) w12 (kPu (eMv v5) w13 (kPu (eIdxA (nat_lit 4) v12 v13) w14 (kRd (eLdA (nat_lit 4) v14) w15 (kHv (eHG (.callv t11 [t15])) w16 kEnd))))))
 (kCond v16 (kSeq (kPu (eMv v5) w17 (kPu (eMv v17) w4 kEnd))
 kRt) kEnd))))
 (kPu (eBin fAdd .add (nat_lit 0) v8 (gC (n6 (nat_lit 1)))) w18 (kPu (eMv v18) w8 kEnd))))))))
 (kSeq (kPu (eMv (gC (.i .i64 (.negSucc (nat_lit 0))))) w4 kEnd)
 kRt))), none⟩
noncomputable def G29 : G := ⟨(nat_lit 134), Tr.fill undefV (nat_lit 134) (nat_lit 134), (rGen []), (kSeq (kPu (eMv (gC (.b true))) w8 kEnd)
 (kSeq (kPu (eMv (gC (.b true))) w9 kEnd)
 (kBlock (nat_lit 0) (kLoop (kBlock (nat_lit 1) (kSeq (kPu (eMv v2) w19 (kPu (eMv v1) w20 (kPu (eBin fSub .sub (nat_lit 0) v19 v20) w21 (kPu (eMv v21) w10 kEnd))))
 (kSeq (kSeq (kPu (eMv v10) w22 (kPu (eBin fLeq .leq (nat_lit 0) v22 (gC (n6 (nat_lit 12)))) w23 kEnd))
 (kCond v23 (kSeq (kPu (eMv v0) w24 (kPu (eMv v1) w25 (kPu (eMv v2) w26 (kCall q32 [v24, v25, v26] w27 kEnd))))
 kRt) kEnd))
 (kSeq (kSeq (kPu (eMv v3) w28 (kPu (eBin fEql .eql (nat_lit 0) v28 (gC (n6 (nat_lit 0)))) w29 kEnd))
 (kCond v29 (kSeq (kPu (eMv v0) w30 (kPu (eMv v1) w31 (kPu (eMv v2) w32 (kCall q33 [v30, v31, v32] w33 kEnd))))
 kRt) kEnd))
 (kSeq (kSeq (kPu (eMv v8) w34 (kPu (eGen (.un .not t34)) w35 kEnd))
 (kCond v35 (kSeq (kPu (eMv v0) w36 (kPu (eMv v1) w37 (kPu (eMv v2) w38 (kCall q34 [v36, v37, v38] w39 kEnd))))
 (kPu (eMv v3) w40 (kPu (eBin fSub .sub (nat_lit 0) v40 (gC (n6 (nat_lit 1)))) w41 (kPu (eMv v41) w3 kEnd)))) kEnd))
 (kSeq (kPu (eMv v0) w43 (kPu (eMv v1) w44 (kPu (eMv v2) w45 (kCall q35 [v43, v44, v45] w46 (kPu (eMv v46) w42 (kPu (eExt (nat_lit 0) v42) w47 (kPu (eExt (nat_lit 1) v42) w48 (kPu (eMv v47) w11 (kPu (eMv v48) w12 kEnd)))))))))
 (kSeq (kSeq (kPu (eMv v12) w49 (kPu (eBin fEql .eql (nat_lit 0) v49 (gC (n6 (nat_lit 2)))) w50 kEnd))
 (kCond v50 (kSeq (kPu (eMv v0) w51 (kPu (eMv v1) w52 (kPu (eMv v2) w53 (kCall q36 [v51, v52, v53] w54 kEnd))))
 (kSeq (kPu (eMv v2) w55 (kPu (eBin fSub .sub (nat_lit 0) v55 (gC (n6 (nat_lit 1)))) w56 (kPu (eMv v11) w57 (kPu (eMv v1) w58 (kPu (eBin fSub .sub (nat_lit 0) v57 v58) w59 (kPu (eBin fSub .sub (nat_lit 0) v56 v59) w60 (kPu (eMv v60) w11 kEnd)))))))
 (kPu (eMv (gC (n6 (nat_lit 1)))) w12 kEnd))) kEnd))
 (kSeq (kSeq (kPu (eMv v8) w61 (kPu (eMv v61) w62 (kGd v62 true (kPu (eMv v9) w63) w63 (kPu (eGen (.pick t62 t63 (.c (.b false)))) w64 (kPu (eMv v64) w65 (kGd v65 true (kPu (eMv v12) w66) w66 (kGd v65 true (kPu (eBin fEql .eql (nat_lit 0) v66 (gC (n6 (nat_lit 1)))) w67) w67 (kPu (eGen (.pick t65 t67 (.c (.b false)))) w68 kEnd))))))))
 (kCond v68 (kSeq (kPu (eMv v0) w69 (kPu (eMv v1) w70 (kPu (eMv v2) w71 (kCall q37 [v69, v70, v71] w72 kEnd))))
 (kCond v72 kRt kEnd)) kEnd))
 (kSeq (kSeq (kPu (eMv v1) w73 (kPu (eBin fGtr .gtr (nat_lit 0) v73 (gC (n6 (nat_lit 0)))) w74 (kPu (eMv v74) w75 (kGd v75 true (kPu (eMv v0) w76) w76 (kGd v75 true (kPu (eMv v1) w77) w77 (kGd v75 true (kPu (eBin fSub .sub (nat_lit 0) v77 (gC (n6 (nat_lit 1)))) w78) w78 (kGd v75 true (kPu (eIdxA (nat_lit 1) v76 v78) w79) w79 (kGd v75 true (kRd (eLd1 v79) w80) w80 (kGd v75 true (kPu (eMv v0) w81) w81 (kGd v75 true (kPu (eMv v11) w82) w82 (kGd v75 true (kPu (eIdxA (nat_lit 1) v81 v82) w83) w83 (kGd v75 true (kRd (eLd1 v83) w84) w84 (kGd v75 true (kCall q38 [v80, v84] w85) w85 (kGd v75 true (kPu (eGen (.un .not t85)) w86) w86 (kPu (eGen (.pick t75 t86 (.c (.b false)))) w87 kEnd)))))))))))))))
 (kCond v87 (kSeq (kPu (eMv v0) w88 (kPu (eMv v1) w89 (kPu (eMv v2) w90 (kPu (eMv v11) w91 (kCall q39 [v88, v89, v90, v91] w92 (kPu (eMv v92) w13 kEnd))))))
 (kSeq (kPu (eMv v13) w93 (kPu (eMv v93) w1 kEnd))
 (kExit (nat_lit 1)))) kEnd))
 (kSeq (kPu (eMv v0) w95 (kPu (eMv v1) w96 (kPu (eMv v2) w97 (kPu (eMv v11) w98 (kCall q40 [v95, v96, v97, v98] w99 (kPu (eMv v99) w94 (kPu (eExt (nat_lit 0) v94) w100 (kPu (eExt (nat_lit 1) v94) w101 (kPu (eMv v100) w14 (kPu (eMv v101) w15 kEnd))))))))))
 (kSeq (kPu (eMv v15) w102 (kPu (eMv v102) w9 kEnd))
 (kSeq (kPu (eMv v14) w103 (kPu (eMv v1) w104 (kPu (eBin fSub .sub (nat_lit 0) v103 v104) w105 (kPu (eMv v2) w106 (kPu (eMv v14) w107 (kPu (eBin fSub .sub (nat_lit 0) v106 v107) w108 (kPu (eMv v105) w16 (kPu (eMv v108) w17 kEnd))))))))
 (kSeq (kPu (eMv v10) w109 (kPu (eBin fQuo .quo (nat_lit 0) v109 (gC (n6 (nat_lit 8)))) w110 (kPu (eMv v110) w18 kEnd)))
 (kSeq (kPu (eMv v16) w111 (kPu (eMv v17) w112 (kPu (eBin fLss .lss (nat_lit 0) v111 v112) w113 kEnd)))
 (kCond v113 (kSeq (kPu (eMv v16) w114 (kPu (eMv v18) w115 (kPu (eBin fGeq .geq (nat_lit 0) v114 v115) w116 (kPu (eMv v116) w8 kEnd))))
 (kSeq (kPu (eMv v0) w117 (kPu (eMv v1) w118 (kPu (eMv v14) w119 (kPu (eMv v3) w120 (kCall q29 [v117, v118, v119, v120] w121 kEnd)))))
 (kPu (eMv v14) w122 (kPu (eBin fAdd .add (nat_lit 0) v122 (gC (n6 (nat_lit 1)))) w123 (kPu (eMv v123) w1 kEnd))))) (kSeq (kPu (eMv v17) w124 (kPu (eMv v18) w125 (kPu (eBin fGeq .geq (nat_lit 0) v124 v125) w126 (kPu (eMv v126) w8 kEnd))))
 (kSeq (kPu (eMv v0) w127 (kPu (eMv v14) w128 (kPu (eBin fAdd .add (nat_lit 0) v128 (gC (n6 (nat_lit 1)))) w129 (kPu (eMv v2) w130 (kPu (eMv v3) w131 (kCall q29 [v127, v129, v130, v131] w132 kEnd))))))
 (kPu (eMv v14) w133 (kPu (eMv v133) w2 kEnd))))))))))))))))))))))), none⟩
noncomputable def G30 : G := ⟨(nat_lit 8), Tr.fill undefV (nat_lit 8) (nat_lit 8), (rOne v2), (kSeq (kPu (eMv (gC (n6 (nat_lit 0)))) w2 kEnd)
 (kSeq (kCond (gC (.b false)) (kSeq (kPu (eMv v0) w3 (kPu (eConv .u32 v3) w4 (kCall q41 [v4] w5 (kPu (eMv v5) w2 kEnd))))
 kRt) kEnd)
 (kSeq (kPu (eMv v0) w6 (kCall q42 [v6] w7 (kPu (eMv v7) w2 kEnd)))
 kRt))), none⟩
noncomputable def G31 : G := ⟨(nat_lit 148), Tr.fill undefV (nat_lit 148) (nat_lit 148), (rGen []), (kSeq (kPu (eMv (gC (.b true))) w10 kEnd)
 (kSeq (kPu (eMv (gC (.b true))) w11 kEnd)
 (kBlock (nat_lit 0) (kLoop (kBlock (nat_lit 1) (kSeq (kPu (eMv v2) w21 (kPu (eMv v1) w22 (kPu (eBin fSub .sub (nat_lit 0) v21 v22) w23 (kPu (eMv v23) w12 kEnd))))
 (kSeq (kSeq (kPu (eMv v12) w24 (kPu (eBin fLeq .leq (nat_lit 0) v24 (gC (n6 (nat_lit 12)))) w25 kEnd))
 (kCond v25 (kSeq (kPu (eMv v0) w26 (kPu (eMv v1) w27 (kPu (eMv v2) w28 (kPu (eMv v4) w29 (kCall q43 [v26, v27, v28, v29] w30 kEnd)))))
 kRt) kEnd))
 (kSeq (kSeq (kPu (eMv v3) w31 (kPu (eBin fEql .eql (nat_lit 0) v31 (gC (n6 (nat_lit 0)))) w32 kEnd))
 (kCond v32 (kSeq (kPu (eMv v0) w33 (kPu (eMv v1) w34 (kPu (eMv v2) w35 (kPu (eMv v4) w36 (kCall q44 [v33, v34, v35, v36] w37 kEnd)))))
 kRt) kEnd))
 (kSeq (kSeq (kPu (eMv v10) w38 (kPu (eGen (.un .not t38)) w39 kEnd))
 (kCond v39 (kSeq (kPu (eMv v0) w40 (kPu (eMv v1) w41 (kPu (eMv v2) w42 (kPu (eMv v4) w43 (kCall q45 [v40, v41, v42, v43] w44 kEnd)))))
 (kPu (eMv v3) w45 (kPu (eBin fSub .sub (nat_lit 0) v45 (gC (n6 (nat_lit 1)))) w46 (kPu (eMv v46) w3 kEnd)))) kEnd))
 (kSeq (kPu (eMv v0) w48 (kPu (eMv v1) w49 (kPu (eMv v2) w50 (kPu (eMv v4) w51 (kCall q46 [v48, v49, v50, v51] w52 (kPu (eMv v52) w47 (kPu (eExt (nat_lit 0) v47) w53 (kPu (eExt (nat_lit 1) v47) w54 (kPu (eMv v53) w13 (kPu (eMv v54) w14 kEnd))))))))))
 (kSeq (kSeq (kPu (eMv v14) w55 (kPu (eBin fEql .eql (nat_lit 0) v55 (gC (n6 (nat_lit 2)))) w56 kEnd))
 (kCond v56 (kSeq (kPu (eMv v0) w57 (kPu (eMv v1) w58 (kPu (eMv v2) w59 (kPu (eMv v4) w60 (kCall q47 [v57, v58, v59, v60] w61 kEnd)))))
 (kSeq (kPu (eMv v2) w62 (kPu (eBin fSub .sub (nat_lit 0) v62 (gC (n6 (nat_lit 1)))) w63 (kPu (eMv v13) w64 (kPu (eMv v1) w65 (kPu (eBin fSub .sub (nat_lit 0) v64 v65) w66 (kPu (eBin fSub .sub (nat_lit 0) v63 v66) w67 (kPu (eMv v67) w13 kEnd)))))))
 (kPu (eMv (gC (n6 (nat_lit 1)))) w14 kEnd))) kEnd))
 (kSeq (kSeq (kPu (eMv v10) w68 (kPu (eMv v68) w69 (kGd v69 true (kPu (eMv v11) w70) w70 (kPu (eGen (.pick t69 t70 (.c (.b false)))) w71 (kPu (eMv v71) w72 (kGd v72 true (kPu (eMv v14) w73) w73 (kGd v72 true (kPu (eBin fEql .eql (nat_lit 0) v73 (gC (n6 (nat_lit 1)))) w74) w74 (kPu (eGen (.pick t72 t74 (.c (.b false)))) w75 kEnd))))))))
 (kCond v75 (kSeq (kPu (eMv v0) w76 (kPu (eMv v1) w77 (kPu (eMv v2) w78 (kPu (eMv v4) w79 (kCall q48 [v76, v77, v78, v79] w80 kEnd)))))
 (kCond v80 kRt kEnd)) kEnd))
 (kSeq (kSeq (kPu (eMv v1) w81 (kPu (eBin fGtr .gtr (nat_lit 0) v81 (gC (n6 (nat_lit 0)))) w82 (kPu (eMv v82) w83 (kGd v83 true (kPu (eMv v4) w84) w84 (kGd v83 true (kPu (eMv v0) w85) w85 (kGd v83 true (kPu (eMv v1) w86) w86 (kGd v83 true (kPu (eBin fSub .sub (nat_lit 0) v86 (gC (n6 (nat_lit 1)))) w87) w87 (kGd v83 true (kPu (eIdxA (nat_lit 2) v85 v87) w88) w88 (kGd v83 true (kRd (eLdA (nat_lit 2) v88) w89) w89 (kGd v83 true (kPu (eMv v0) w90) w90 (kGd v83 true (kPu (eMv v13) w91) w91 (kGd v83 true (kPu (eIdxA (nat_lit 2) v90 v91) w92) w92 (kGd v83 true (kRd (eLdA (nat_lit 2) v92) w93) w93 (kGd v83 true (kHv (eHG (.callv t84 [t89, t93])) w94) w94 (kGd v83 true (kPu (eBin fLss .lss (nat_lit 0) v94 (gC (n6 (nat_lit 0)))) w95) w95 (kGd v83 true (kPu (eGen (.un .not t95)) w96) w96 (kPu (eGen (.pick t83 t96 (.c (.b false)))) w97 kEnd)))))))))))))))))
 (kCond v97 (kSeq (kPu (eMv v0) w98 (kPu (eMv v1) w99 (kPu (eMv v2) w100 (kPu (eMv v13) w101 (kPu (eMv v4) w102 (kCall q49 [v98, v99, v100, v101, v102] w103 (kPu (eMv v103) w15 kEnd)))))))
 (kSeq (kPu (eMv v15) w104 (kPu (eMv v104) w1 kEnd))
 (kExit (nat_lit 1)))) kEnd))
 (kSeq (kPu (eMv v0) w106 (kPu (eMv v1) w107 (kPu (eMv v2) w108 (kPu (eMv v13) w109 (kPu (eMv v4) w110 (kCall q50 [v106, v107, v108, v109, v110] w111 (kPu (eMv v111) w105 (kPu (eExt (nat_lit 0) v105) w112 (kPu (eExt (nat_lit 1) v105) w113 (kPu (eMv v112) w16 (kPu (eMv v113) w17 kEnd)))))))))))
 (kSeq (kPu (eMv v17) w114 (kPu (eMv v114) w11 kEnd))
 (kSeq (kPu (eMv v16) w115 (kPu (eMv v1) w116 (kPu (eBin fSub .sub (nat_lit 0) v115 v116) w117 (kPu (eMv v2) w118 (kPu (eMv v16) w119 (kPu (eBin fSub .sub (nat_lit 0) v118 v119) w120 (kPu (eMv v117) w18 (kPu (eMv v120) w19 kEnd))))))))
 (kSeq (kPu (eMv v12) w121 (kPu (eBin fQuo .quo (nat_lit 0) v121 (gC (n6 (nat_lit 8)))) w122 (kPu (eMv v122) w20 kEnd)))
 (kSeq (kPu (eMv v18) w123 (kPu (eMv v19) w124 (kPu (eBin fLss .lss (nat_lit 0) v123 v124) w125 kEnd)))
 (kCond v125 (kSeq (kPu (eMv v18) w126 (kPu (eMv v20) w127 (kPu (eBin fGeq .geq (nat_lit 0) v126 v127) w128 (kPu (eMv v128) w10 kEnd))))
 (kSeq (kPu (eMv v0) w129 (kPu (eMv v1) w130 (kPu (eMv v16) w131 (kPu (eMv v3) w132 (kPu (eMv v4) w133 (kCall q31 [v129, v130, v131, v132, v133] w134 kEnd))))))
 (kPu (eMv v16) w135 (kPu (eBin fAdd .add (nat_lit 0) v135 (gC (n6 (nat_lit 1)))) w136 (kPu (eMv v136) w1 kEnd))))) (kSeq (kPu (eMv v19) w137 (kPu (eMv v20) w138 (kPu (eBin fGeq .geq (nat_lit 0) v137 v138) w139 (kPu (eMv v139) w10 kEnd))))
 (kSeq (kPu (eMv v0) w140 (kPu (eMv v16) w141 (kPu (eBin fAdd .add (nat_lit 0) v141 (gC (n6 (nat_lit 1)))) w142 (kPu (eMv v2) w143 (kPu (eMv v3) w144 (kPu (eMv v4) w145 (kCall q31 [v140, v142, v143, v144, v145] w146 kEnd)))))))
 (kPu (eMv v16) w147 (kPu (eMv v147) w2 kEnd))))))))))))))))))))))), none⟩
noncomputable def G32 : G := ⟨(nat_lit 49), Tr.fill undefV (nat_lit 49) (nat_lit 49), (rGen []), (kSeq (kPu (eMv v1) w8 (kPu (eBin fAdd .add (nat_lit 0) v8 (gC (n6 (nat_lit 1)))) w9 (kPu (eMv v9) w6 kEnd)))
 (kBlock (nat_lit 0) (kLoop (kSeq (kSeq (kPu (eMv v6) w10 (kPu (eMv v2) w11 (kPu (eBin fLss .lss (nat_lit 0) v10 v11) w12 kEnd)))
 (kCond v12 kEnd (kExit (nat_lit 0))))
 (kSeq (kBlock (nat_lit 1) (kSeq (kPu (eMv v6) w15 (kPu (eMv v15) w7 kEnd))
 (kBlock (nat_lit 2) (kLoop (kSeq (kSeq (kPu (eMv v7) w16 (kPu (eMv v1) w17 (kPu (eBin fGtr .gtr (nat_lit 0) v16 v17) w18 (kPu (eMv v18) w19 (kGd v19 true (kPu (eMv v0) w20) w20 (kGd v19 true (kPu (eMv v7) w21) w21 (kGd v19 true (kPu (eIdxA (nat_lit 1) v20 v21) w22) w22 (kGd v19 true (kRd (eLd1 v22) w23) w23 (kGd v19 true (kPu (eMv v0) w24) w24 (kGd v19 true (kPu (eMv v7) w25) w25 (kGd v19 true (kPu (eBin fSub .sub (nat_lit 0) v25 (gC (n6 (nat_lit 1)))) w26) w26 (kGd v19 true (kPu (eIdxA (nat_lit 1) v24 v26) w27) w27 (kGd v19 true (kRd (eLd1 v27) w28) w28 (kGd v19 true (kCall q38 [v23, v28] w29) w29 (kPu (eGen (.pick t19 t29 (.c (.b false)))) w30 kEnd)))))))))))))))
 (kCond v30 kEnd (kExit (nat_lit 2))))
 (kSeq (kBlock (nat_lit 3) (kPu (eMv v0) w33 (kPu (eMv v7) w34 (kPu (eMv v0) w35 (kPu (eMv v7) w36 (kPu (eBin fSub .sub (nat_lit 0) v36 (gC (n6 (nat_lit 1)))) w37 (kPu (eMv v0) w38 (kPu (eMv v7) w39 (kPu (eBin fSub .sub (nat_lit 0) v39 (gC (n6 (nat_lit 1)))) w40 (kPu (eIdxA (nat_lit 1) v38 v40) w41 (kRd (eLd1 v41) w42 (kPu (eMv v0) w43 (kPu (eMv v7) w44 (kPu (eIdxA (nat_lit 1) v43 v44) w45 (kRd (eLd1 v45) w46 (kPu (eIdxA (nat_lit 1) v33 v34) w47 (kHv (eSt1 v47 v42) s0 (kPu (eIdxA (nat_lit 1) v35 v37) w48 (kHv (eSt1 v48 v46) s0 kEnd)))))))))))))))))))
 (kPu (eMv v7) w31 (kPu (eBin fSub .sub (nat_lit 0) v31 (gC (n6 (nat_lit 1)))) w32 (kPu (eMv v32) w7 kEnd)))))))))
 (kPu (eMv v6) w13 (kPu (eBin fAdd .add (nat_lit 0) v13 (gC (n6 (nat_lit 1)))) w14 (kPu (eMv v14) w6 kEnd)))))))), none⟩
noncomputable def G33 : G := ⟨(nat_lit 56), Tr.fill undefV (nat_lit 56) (nat_lit 56), (rGen []), (kSeq (kPu (eMv v1) w11 (kPu (eMv v11) w6 kEnd))
 (kSeq (kPu (eMv (gC (n6 (nat_lit 0)))) w7 kEnd)
 (kSeq (kPu (eMv v2) w12 (kPu (eMv v1) w13 (kPu (eBin fSub .sub (nat_lit 0) v12 v13) w14 (kPu (eMv v14) w8 kEnd))))
 (kSeq (kSeq (kPu (eMv v8) w15 (kPu (eBin fSub .sub (nat_lit 0) v15 (gC (n6 (nat_lit 1)))) w16 (kPu (eBin fQuo .quo (nat_lit 0) v16 (gC (n6 (nat_lit 2)))) w17 (kPu (eMv v17) w9 kEnd))))
 (kBlock (nat_lit 0) (kLoop (kSeq (kSeq (kPu (eMv v9) w18 (kPu (eBin fGeq .geq (nat_lit 0) v18 (gC (n6 (nat_lit 0)))) w19 kEnd))
 (kCond v19 kEnd (kExit (nat_lit 0))))
 (kSeq (kBlock (nat_lit 1) (kPu (eMv v0) w22 (kPu (eMv v9) w23 (kPu (eMv v8) w24 (kPu (eMv v6) w25 (kCall q51 [v22, v23, v24, v25] w26 kEnd))))))
 (kPu (eMv v9) w20 (kPu (eBin fSub .sub (nat_lit 0) v20 (gC (n6 (nat_lit 1)))) w21 (kPu (eMv v21) w9 kEnd))))))))
 (kSeq (kPu (eMv v8) w27 (kPu (eBin fSub .sub (nat_lit 0) v27 (gC (n6 (nat_lit 1)))) w28 (kPu (eMv v28) w10 kEnd)))
 (kBlock (nat_lit 2) (kLoop (kSeq (kSeq (kPu (eMv v10) w29 (kPu (eBin fGeq .geq (nat_lit 0) v29 (gC (n6 (nat_lit 0)))) w30 kEnd))
 (kCond v30 kEnd (kExit (nat_lit 2))))
 (kSeq (kBlock (nat_lit 3) (kSeq (kPu (eMv v0) w33 (kPu (eMv v6) w34 (kPu (eMv v0) w35 (kPu (eMv v6) w36 (kPu (eMv v10) w37 (kPu (eBin fAdd .add (nat_lit 0) v36 v37) w38 (kPu (eMv v0) w39 (kPu (eMv v6) w40 (kPu (eMv v10) w41 (kPu (eBin fAdd .add (nat_lit 0) v40 v41) w42 (kPu (eIdxA (nat_lit 1) v39 v42) w43 (kRd (eLd1 v43) w44 (kPu (eMv v0) w45 (kPu (eMv v6) w46 (kPu (eIdxA (nat_lit 1) v45 v46) w47 (kRd (eLd1 v47) w48 (kPu (eIdxA (nat_lit 1) v33 v34) w49 (kHv (eSt1 v49 v44) s0 (kPu (eIdxA (nat_lit 1) v35 v38) w50 (kHv (eSt1 v50 v48) s0 kEnd))))))))))))))))))))
 (kPu (eMv v0) w51 (kPu (eMv v7) w52 (kPu (eMv v10) w53 (kPu (eMv v6) w54 (kCall q51 [v51, v52, v53, v54] w55 kEnd)))))))
 (kPu (eMv v10) w31 (kPu (eBin fSub .sub (nat_lit 0) v31 (gC (n6 (nat_lit 1)))) w32 (kPu (eMv v32) w10 kEnd)))))))))))), none⟩
noncomputable def G34 : G := ⟨(nat_lit 65), Tr.fill undefV (nat_lit 65) (nat_lit 65), (rGen []), (kSeq (kPu (eMv v2) w11 (kPu (eMv v1) w12 (kPu (eBin fSub .sub (nat_lit 0) v11 v12) w13 (kPu (eMv v13) w6 kEnd))))
 (kSeq (kPu (eMv v6) w14 (kPu (eBin fGeq .geq (nat_lit 0) v14 (gC (n6 (nat_lit 8)))) w15 kEnd))
 (kCond v15 (kSeq (kPu (eMv v6) w16 (kPu (eConv .u64 v16) w17 (kAl (eA (.alloc [(.i .u64 (.ofNat (nat_lit 0)))] (nat_lit 73))) w7 (kHv (eSt1 v7 v17) s0 kEnd))))
 (kSeq (kPu (eMv v6) w18 (kCall q52 [v18] w19 (kPu (eMv v19) w8 kEnd)))
 (kSeq (kPu (eMv v1) w20 (kPu (eMv v6) w21 (kPu (eBin fQuo .quo (nat_lit 0) v21 (gC (n6 (nat_lit 4)))) w22 (kPu (eBin fMul .mul (nat_lit 0) v22 (gC (n6 (nat_lit 2)))) w23 (kPu (eBin fAdd .add (nat_lit 0) v20 v23) w24 (kPu (eBin fSub .sub (nat_lit 0) v24 (gC (n6 (nat_lit 1)))) w25 (kPu (eMv v25) w9 kEnd)))))))
 (kBlock (nat_lit 0) (kLoop (kSeq (kSeq (kPu (eMv v9) w26 (kPu (eMv v1) w27 (kPu (eMv v6) w28 (kPu (eBin fQuo .quo (nat_lit 0) v28 (gC (n6 (nat_lit 4)))) w29 (kPu (eBin fMul .mul (nat_lit 0) v29 (gC (n6 (nat_lit 2)))) w30 (kPu (eBin fAdd .add (nat_lit 0) v27 v30) w31 (kPu (eBin fAdd .add (nat_lit 0) v31 (gC (n6 (nat_lit 1)))) w32 (kPu (eBin fLeq .leq (nat_lit 0) v26 v32) w33 kEnd))))))))
 (kCond v33 kEnd (kExit (nat_lit 0))))
 (kSeq (kBlock (nat_lit 1) (kSeq (kCall q53 [v7] w36 (kPu (eMv v8) w37 (kPu (eBin fSub .sub (nat_lit 0) v37 (gC (.i .u64 (.ofNat (nat_lit 1))))) w38 (kPu (eBin fAnd .and (nat_lit 0) v36 v38) w39 (kPu (eConv .i64 v39) w40 (kPu (eMv v40) w10 kEnd))))))
 (kSeq (kSeq (kPu (eMv v10) w41 (kPu (eMv v6) w42 (kPu (eBin fGeq .geq (nat_lit 0) v41 v42) w43 kEnd)))
 (kCond v43 (kPu (eMv v10) w44 (kPu (eMv v6) w45 (kPu (eBin fSub .sub (nat_lit 0) v44 v45) w46 (kPu (eMv v46) w10 kEnd)))) kEnd))
 (kPu (eMv v0) w47 (kPu (eMv v9) w48 (kPu (eMv v0) w49 (kPu (eMv v1) w50 (kPu (eMv v10) w51 (kPu (eBin fAdd .add (nat_lit 0) v50 v51) w52 (kPu (eMv v0) w53 (kPu (eMv v1) w54 (kPu (eMv v10) w55 (kPu (eBin fAdd .add (nat_lit 0) v54 v55) w56 (kPu (eIdxA (nat_lit 1) v53 v56) w57 (kRd (eLd1 v57) w58 (kPu (eMv v0) w59 (kPu (eMv v9) w60 (kPu (eIdxA (nat_lit 1) v59 v60) w61 (kRd (eLd1 v61) w62 (kPu (eIdxA (nat_lit 1) v47 v48) w63 (kHv (eSt1 v63 v58) s0 (kPu (eIdxA (nat_lit 1) v49 v52) w64 (kHv (eSt1 v64 v62) s0 kEnd)))))))))))))))))))))))
 (kPu (eMv v9) w34 (kPu (eBin fAdd .add (nat_lit 0) v34 (gC (n6 (nat_lit 1)))) w35 (kPu (eMv v35) w9 kEnd)))))))))) kEnd))), none⟩
noncomputable def G35 : G := ⟨(nat_lit 57), Tr.fill undefV (nat_lit 57) (nat_lit 57), (rGen [(.t q6), (.t q7)]), (kSeq (kPu (eMv (gC (n6 (nat_lit 0)))) w6 (kPu (eMv (gC (n6 (nat_lit 0)))) w7 kEnd))
 (kSeq (kPu (eMv v2) w13 (kPu (eMv v1) w14 (kPu (eBin fSub .sub (nat_lit 0) v13 v14) w15 (kPu (eMv v15) w8 kEnd))))
 (kSeq (kAl (eA (.alloc [(n6 (nat_lit 0))] (nat_lit 3))) w9 kEnd)
 (kSeq (kPu (eMv v1) w16 (kPu (eMv v8) w17 (kPu (eBin fQuo .quo (nat_lit 0) v17 (gC (n6 (nat_lit 4)))) w18 (kPu (eBin fMul .mul (nat_lit 0) v18 (gC (n6 (nat_lit 1)))) w19 (kPu (eBin fAdd .add (nat_lit 0) v16 v19) w20 (kPu (eMv v20) w10 kEnd))))))
 (kSeq (kPu (eMv v1) w21 (kPu (eMv v8) w22 (kPu (eBin fQuo .quo (nat_lit 0) v22 (gC (n6 (nat_lit 4)))) w23 (kPu (eBin fMul .mul (nat_lit 0) v23 (gC (n6 (nat_lit 2)))) w24 (kPu (eBin fAdd .add (nat_lit 0) v21 v24) w25 (kPu (eMv v25) w11 kEnd))))))
 (kSeq (kPu (eMv v1) w26 (kPu (eMv v8) w27 (kPu (eBin fQuo .quo (nat_lit 0) v27 (gC (n6 (nat_lit 4)))) w28 (kPu (eBin fMul .mul (nat_lit 0) v28 (gC (n6 (nat_lit 3)))) w29 (kPu (eBin fAdd .add (nat_lit 0) v26 v29) w30 (kPu (eMv v30) w12 kEnd))))))
 (kSeq (kSeq (kPu (eMv v8) w31 (kPu (eBin fGeq .geq (nat_lit 0) v31 (gC (n6 (nat_lit 8)))) w32 kEnd))
 (kCond v32 (kSeq (kSeq (kPu (eMv v8) w33 (kPu (eBin fGeq .geq (nat_lit 0) v33 (gC (n6 (nat_lit 50)))) w34 kEnd))
 (kCond v34 (kSeq (kPu (eMv v0) w35 (kPu (eMv v10) w36 (kCall q54 [v35, v36, v9] w37 (kPu (eMv v37) w10 kEnd))))
 (kSeq (kPu (eMv v0) w38 (kPu (eMv v11) w39 (kCall q54 [v38, v39, v9] w40 (kPu (eMv v40) w11 kEnd))))
 (kPu (eMv v0) w41 (kPu (eMv v12) w42 (kCall q54 [v41, v42, v9] w43 (kPu (eMv v43) w12 kEnd)))))) kEnd))
 (kPu (eMv v0) w44 (kPu (eMv v10) w45 (kPu (eMv v11) w46 (kPu (eMv v12) w47 (kCall q55 [v44, v45, v46, v47, v9] w48 (kPu (eMv v48) w11 kEnd))))))) kEnd))
 (kSeq (kRd (eLd1 v9) w49 kEnd)
 (kBlock (nat_lit 0) (kSeq (kPu (eBin fEql .eql (nat_lit 0) v49 (gC (n6 (nat_lit 0)))) w52 (kPu (eMv v52) w51 kEnd))
 (kCond v51 (kSeq (kPu (eMv v11) w53 (kPu (eMv v53) w6 (kPu (eMv (gC (n6 (nat_lit 1)))) w7 kEnd)))
 kRt) (kSeq (kPu (eBin fEql .eql (nat_lit 0) v49 (gC (n6 (nat_lit 12)))) w55 (kPu (eMv v55) w54 kEnd))
 (kCond v54 (kSeq (kPu (eMv v11) w56 (kPu (eMv v56) w6 (kPu (eMv (gC (n6 (nat_lit 2)))) w7 kEnd)))
 kRt) (kSeq (kPu (eMv v11) w50 (kPu (eMv v50) w6 (kPu (eMv (gC (n6 (nat_lit 0)))) w7 kEnd)))
 kRt)))))))))))))), none⟩
noncomputable def G36 : G := ⟨(nat_lit 32), Tr.fill undefV (nat_lit 32) (nat_lit 32), (rGen []), (kSeq (kPu (eMv v1) w8 (kPu (eMv v8) w6 kEnd))
 (kSeq (kPu (eMv v2) w9 (kPu (eBin fSub .sub (nat_lit 0) v9 (gC (n6 (nat_lit 1)))) w10 (kPu (eMv v10) w7 kEnd)))
 (kBlock (nat_lit 0) (kLoop (kSeq (kSeq (kPu (eMv v6) w11 (kPu (eMv v7) w12 (kPu (eBin fLss .lss (nat_lit 0) v11 v12) w13 kEnd)))
 (kCond v13 kEnd (kExit (nat_lit 0))))
 (kBlock (nat_lit 1) (kSeq (kPu (eMv v0) w14 (kPu (eMv v6) w15 (kPu (eMv v0) w16 (kPu (eMv v7) w17 (kPu (eMv v0) w18 (kPu (eMv v7) w19 (kPu (eIdxA (nat_lit 1) v18 v19) w20 (kRd (eLd1 v20) w21 (kPu (eMv v0) w22 (kPu (eMv v6) w23 (kPu (eIdxA (nat_lit 1) v22 v23) w24 (kRd (eLd1 v24) w25 (kPu (eIdxA (nat_lit 1) v14 v15) w26 (kHv (eSt1 v26 v21) s0 (kPu (eIdxA (nat_lit 1) v16 v17) w27 (kHv (eSt1 v27 v25) s0 kEnd))))))))))))))))
 (kSeq (kPu (eMv v6) w28 (kPu (eBin fAdd .add (nat_lit 0) v28 (gC (n6 (nat_lit 1)))) w29 (kPu (eMv v29) w6 kEnd)))
 (kPu (eMv v7) w30 (kPu (eBin fSub .sub (nat_lit 0) v30 (gC (n6 (nat_lit 1)))) w31 (kPu (eMv v31) w7 kEnd))))))))))), none⟩
noncomputable def G37 : G := ⟨(nat_lit 133), Tr.fill undefV (nat_lit 133) (nat_lit 133), (rOne v6), (kSeq (kPu (eMv (gC (.b false))) w6 kEnd)
 (kSeq (kPu (eMv v1) w11 (kPu (eBin fAdd .add (nat_lit 0) v11 (gC (n6 (nat_lit 1)))) w12 (kPu (eMv v12) w7 kEnd)))
 (kSeq (kSeq (kPu (eMv (gC (n6 (nat_lit 0)))) w8 kEnd)
 (kBlock (nat_lit 0) (kLoop (kSeq (kSeq (kPu (eMv v8) w13 (kPu (eBin fLss .lss (nat_lit 0) v13 (gC (n6 (nat_lit 5)))) w14 kEnd))
 (kCond v14 kEnd (kExit (nat_lit 0))))
 (kSeq (kBlock (nat_lit 1) (kSeq (kBlock (nat_lit 2) (kLoop (kSeq (kSeq (kPu (eMv v7) w17 (kPu (eMv v2) w18 (kPu (eBin fLss .lss (nat_lit 0) v17 v18) w19 (kPu (eMv v19) w20 (kGd v20 true (kPu (eMv v0) w21) w21 (kGd v20 true (kPu (eMv v7) w22) w22 (kGd v20 true (kPu (eIdxA (nat_lit 1) v21 v22) w23) w23 (kGd v20 true (kRd (eLd1 v23) w24) w24 (kGd v20 true (kPu (eMv v0) w25) w25 (kGd v20 true (kPu (eMv v7) w26) w26 (kGd v20 true (kPu (eBin fSub .sub (nat_lit 0) v26 (gC (n6 (nat_lit 1)))) w27) w27 (kGd v20 true (kPu (eIdxA (nat_lit 1) v25 v27) w28) w28 (kGd v20 true (kRd (eLd1 v28) w29) w29 (kGd v20 true (kCall q38 [v24, v29] w30) w30 (kGd v20 true (kPu (eGen (.un .not t30)) w31) w31 (kPu (eGen (.pick t20 t31 (.c (.b false)))) w32 kEnd))))))))))))))))
 (kCond v32 kEnd (kExit (nat_lit 2))))
 (kBlock (nat_lit 3) (kPu (eMv v7) w33 (kPu (eBin fAdd .add (nat_lit 0) v33 (gC (n6 (nat_lit 1)))) w34 (kPu (eMv v34) w7 kEnd)))))))
 (kSeq (kSeq (kPu (eMv v7) w35 (kPu (eMv v2) w36 (kPu (eBin fEql .eql (nat_lit 0) v35 v36) w37 kEnd)))
 (kCond v37 (kSeq (kPu (eMv (gC (.b true))) w6 kEnd)
 kRt) kEnd))
 (kSeq (kSeq (kPu (eMv v2) w38 (kPu (eMv v1) w39 (kPu (eBin fSub .sub (nat_lit 0) v38 v39) w40 (kPu (eBin fLss .lss (nat_lit 0) v40 (gC (n6 (nat_lit 50)))) w41 kEnd))))
 (kCond v41 (kSeq (kPu (eMv (gC (.b false))) w6 kEnd)
 kRt) kEnd))
 (kSeq (kPu (eMv v0) w42 (kPu (eMv v7) w43 (kPu (eMv v0) w44 (kPu (eMv v7) w45 (kPu (eBin fSub .sub (nat_lit 0) v45 (gC (n6 (nat_lit 1)))) w46 (kPu (eMv v0) w47 (kPu (eMv v7) w48 (kPu (eBin fSub .sub (nat_lit 0) v48 (gC (n6 (nat_lit 1)))) w49 (kPu (eIdxA (nat_lit 1) v47 v49) w50 (kRd (eLd1 v50) w51 (kPu (eMv v0) w52 (kPu (eMv v7) w53 (kPu (eIdxA (nat_lit 1) v52 v53) w54 (kRd (eLd1 v54) w55 (kPu (eIdxA (nat_lit 1) v42 v43) w56 (kHv (eSt1 v56 v51) s0 (kPu (eIdxA (nat_lit 1) v44 v46) w57 (kHv (eSt1 v57 v55) s0 kEnd))))))))))))))))))
 (kSeq (kSeq (kPu (eMv v7) w58 (kPu (eMv v1) w59 (kPu (eBin fSub .sub (nat_lit 0) v58 v59) w60 (kPu (eBin fGeq .geq (nat_lit 0) v60 (gC (n6 (nat_lit 2)))) w61 kEnd))))
 (kCond v61 (kSeq (kPu (eMv v7) w62 (kPu (eBin fSub .sub (nat_lit 0) v62 (gC (n6 (nat_lit 1)))) w63 (kPu (eMv v63) w9 kEnd)))
 (kBlock (nat_lit 4) (kLoop (kSeq (kSeq (kPu (eMv v9) w64 (kPu (eBin fGeq .geq (nat_lit 0) v64 (gC (n6 (nat_lit 1)))) w65 kEnd))
 (kCond v65 kEnd (kExit (nat_lit 4))))
 (kSeq (kBlock (nat_lit 5) (kSeq (kSeq (kPu (eMv v0) w68 (kPu (eMv v9) w69 (kPu (eIdxA (nat_lit 1) v68 v69) w70 (kRd (eLd1 v70) w71 (kPu (eMv v0) w72 (kPu (eMv v9) w73 (kPu (eBin fSub .sub (nat_lit 0) v73 (gC (n6 (nat_lit 1)))) w74 (kPu (eIdxA (nat_lit 1) v72 v74) w75 (kRd (eLd1 v75) w76 (kCall q38 [v71, v76] w77 (kPu (eGen (.un .not t77)) w78 kEnd)))))))))))
 (kCond v78 (kExit (nat_lit 4)) kEnd))
 (kPu (eMv v0) w79 (kPu (eMv v9) w80 (kPu (eMv v0) w81 (kPu (eMv v9) w82 (kPu (eBin fSub .sub (nat_lit 0) v82 (gC (n6 (nat_lit 1)))) w83 (kPu (eMv v0) w84 (kPu (eMv v9) w85 (kPu (eBin fSub .sub (nat_lit 0) v85 (gC (n6 (nat_lit 1)))) w86 (kPu (eIdxA (nat_lit 1) v84 v86) w87 (kRd (eLd1 v87) w88 (kPu (eMv v0) w89 (kPu (eMv v9) w90 (kPu (eIdxA (nat_lit 1) v89 v90) w91 (kRd (eLd1 v91) w92 (kPu (eIdxA (nat_lit 1) v79 v80) w93 (kHv (eSt1 v93 v88) s0 (kPu (eIdxA (nat_lit 1) v81 v83) w94 (kHv (eSt1 v94 v92) s0 kEnd))))))))))))))))))))
 (kPu (eMv v9) w66 (kPu (eBin fSub .sub (nat_lit 0) v66 (gC (n6 (nat_lit 1)))) w67 (kPu (eMv v67) w9 kEnd)))))))) kEnd))
 (kSeq (kPu (eMv v2) w95 (kPu (eMv v7) w96 (kPu (eBin fSub .sub (nat_lit 0) v95 v96) w97 (kPu (eBin fGeq .geq (nat_lit 0) v97 (gC (n6 (nat_lit 2)))) w98 kEnd))))
 (kCond v98 (kSeq (kPu (eMv v7) w99 (kPu (eBin fAdd .add (nat_lit 0) v99 (gC (n6 (nat_lit 1)))) w100 (kPu (eMv v100) w10 kEnd)))
 (kBlock (nat_lit 6) (kLoop (kSeq (kSeq (kPu (eMv v10) w101 (kPu (eMv v2) w102 (kPu (eBin fLss .lss (nat_lit 0) v101 v102) w103 kEnd)))
 (kCond v103 kEnd (kExit (nat_lit 6))))
 (kSeq (kBlock (nat_lit 7) (kSeq (kSeq (kPu (eMv v0) w106 (kPu (eMv v10) w107 (kPu (eIdxA (nat_lit 1) v106 v107) w108 (kRd (eLd1 v108) w109 (kPu (eMv v0) w110 (kPu (eMv v10) w111 (kPu (eBin fSub .sub (nat_lit 0) v111 (gC (n6 (nat_lit 1)))) w112 (kPu (eIdxA (nat_lit 1) v110 v112) w113 (kRd (eLd1 v113) w114 (kCall q38 [v109, v114] w115 (kPu (eGen (.un .not t115)) w116 kEnd)))))))))))
 (kCond v116 (kExit (nat_lit 6)) kEnd))
 (kPu (eMv v0) w117 (kPu (eMv v10) w118 (kPu (eMv v0) w119 (kPu (eMv v10) w120 (kPu (eBin fSub .sub (nat_lit 0) v120 (gC (n6 (nat_lit 1)))) w121 (kPu (eMv v0) w122 (kPu (eMv v10) w123 (kPu (eBin fSub .sub (nat_lit 0) v123 (gC (n6 (nat_lit 1)))) w124 (kPu (eIdxA (nat_lit 1) v122 v124) w125 (kRd (eLd1 v125) w126 (kPu (eMv v0) w127 (kPu (eMv v10) w128 (kPu (eIdxA (nat_lit 1) v127 v128) w129 (kRd (eLd1 v129) w130 (kPu (eIdxA (nat_lit 1) v117 v118) w131 (kHv (eSt1 v131 v126) s0 (kPu (eIdxA (nat_lit 1) v119 v121) w132 (kHv (eSt1 v132 v130) s0 kEnd))))))))))))))))))))
 (kPu (eMv v10) w104 (kPu (eBin fAdd .add (nat_lit 0) v104 (gC (n6 (nat_lit 1)))) w105 (kPu (eMv v105) w10 kEnd)))))))) kEnd))))))))
 (kPu (eMv v8) w15 (kPu (eBin fAdd .add (nat_lit 0) v15 (gC (n6 (nat_lit 1)))) w16 (kPu (eMv v16) w8 kEnd))))))))
 (kSeq (kPu (eMv (gC (.b false))) w6 kEnd)
 kRt)))), none⟩
noncomputable def G38 : G := ⟨(nat_lit 17), Tr.fill undefV (nat_lit 17) (nat_lit 17), (rOne v4), (kSeq (kPu (eMv (gC (.b false))) w4 kEnd)
 (kSeq (kPu (eMv v0) w5 (kCall q56 [v5] w6 (kPu (eMv v6) w7 (kGd v7 true (kPu (eMv v1) w8) w8 (kGd v7 true (kCall q56 [v8] w9) w9 (kGd v7 true (kPu (eGen (.un .not t9)) w10) w10 (kPu (eGen (.pick t7 t10 (.c (.b false)))) w11 (kPu (eMv v11) w12 (kGd v12 false (kPu (eMv v0) w13) w13 (kGd v12 false (kPu (eMv v1) w14) w14 (kGd v12 false (kPu (eBin fLss .lss (nat_lit 0) v13 v14) w15) w15 (kPu (eGen (.pick t12 (.c (.b true)) t15)) w16 (kPu (eMv v16) w4 kEnd)))))))))))))
 kRt)), none⟩
noncomputable def G39 : G := ⟨(nat_lit 84), Tr.fill undefV (nat_lit 84) (nat_lit 84), (rOne v8), (kSeq (kPu (eMv (gC (n6 (nat_lit 0)))) w8 kEnd)
 (kSeq (kPu (eMv v0) w11 (kPu (eMv v1) w12 (kPu (eMv v0) w13 (kPu (eMv v3) w14 (kPu (eMv v0) w15 (kPu (eMv v3) w16 (kPu (eIdxA (nat_lit 1) v15 v16) w17 (kRd (eLd1 v17) w18 (kPu (eMv v0) w19 (kPu (eMv v1) w20 (kPu (eIdxA (nat_lit 1) v19 v20) w21 (kRd (eLd1 v21) w22 (kPu (eIdxA (nat_lit 1) v11 v12) w23 (kHv (eSt1 v23 v18) s0 (kPu (eIdxA (nat_lit 1) v13 v14) w24 (kHv (eSt1 v24 v22) s0 kEnd))))))))))))))))
 (kSeq (kPu (eMv v1) w25 (kPu (eBin fAdd .add (nat_lit 0) v25 (gC (n6 (nat_lit 1)))) w26 (kPu (eMv v2) w27 (kPu (eBin fSub .sub (nat_lit 0) v27 (gC (n6 (nat_lit 1)))) w28 (kPu (eMv v26) w9 (kPu (eMv v28) w10 kEnd))))))
 (kSeq (kBlock (nat_lit 0) (kLoop (kBlock (nat_lit 1) (kSeq (kBlock (nat_lit 2) (kLoop (kSeq (kSeq (kPu (eMv v9) w29 (kPu (eMv v10) w30 (kPu (eBin fLeq .leq (nat_lit 0) v29 v30) w31 (kPu (eMv v31) w32 (kGd v32 true (kPu (eMv v0) w33) w33 (kGd v32 true (kPu (eMv v1) w34) w34 (kGd v32 true (kPu (eIdxA (nat_lit 1) v33 v34) w35) w35 (kGd v32 true (kRd (eLd1 v35) w36) w36 (kGd v32 true (kPu (eMv v0) w37) w37 (kGd v32 true (kPu (eMv v9) w38) w38 (kGd v32 true (kPu (eIdxA (nat_lit 1) v37 v38) w39) w39 (kGd v32 true (kRd (eLd1 v39) w40) w40 (kGd v32 true (kCall q38 [v36, v40] w41) w41 (kGd v32 true (kPu (eGen (.un .not t41)) w42) w42 (kPu (eGen (.pick t32 t42 (.c (.b false)))) w43 kEnd)))))))))))))))
 (kCond v43 kEnd (kExit (nat_lit 2))))
 (kBlock (nat_lit 3) (kPu (eMv v9) w44 (kPu (eBin fAdd .add (nat_lit 0) v44 (gC (n6 (nat_lit 1)))) w45 (kPu (eMv v45) w9 kEnd)))))))
 (kSeq (kBlock (nat_lit 4) (kLoop (kSeq (kSeq (kPu (eMv v9) w46 (kPu (eMv v10) w47 (kPu (eBin fLeq .leq (nat_lit 0) v46 v47) w48 (kPu (eMv v48) w49 (kGd v49 true (kPu (eMv v0) w50) w50 (kGd v49 true (kPu (eMv v1) w51) w51 (kGd v49 true (kPu (eIdxA (nat_lit 1) v50 v51) w52) w52 (kGd v49 true (kRd (eLd1 v52) w53) w53 (kGd v49 true (kPu (eMv v0) w54) w54 (kGd v49 true (kPu (eMv v10) w55) w55 (kGd v49 true (kPu (eIdxA (nat_lit 1) v54 v55) w56) w56 (kGd v49 true (kRd (eLd1 v56) w57) w57 (kGd v49 true (kCall q38 [v53, v57] w58) w58 (kPu (eGen (.pick t49 t58 (.c (.b false)))) w59 kEnd))))))))))))))
 (kCond v59 kEnd (kExit (nat_lit 4))))
 (kBlock (nat_lit 5) (kPu (eMv v10) w60 (kPu (eBin fSub .sub (nat_lit 0) v60 (gC (n6 (nat_lit 1)))) w61 (kPu (eMv v61) w10 kEnd)))))))
 (kSeq (kSeq (kPu (eMv v9) w62 (kPu (eMv v10) w63 (kPu (eBin fGtr .gtr (nat_lit 0) v62 v63) w64 kEnd)))
 (kCond v64 (kExit (nat_lit 0)) kEnd))
 (kSeq (kPu (eMv v0) w65 (kPu (eMv v9) w66 (kPu (eMv v0) w67 (kPu (eMv v10) w68 (kPu (eMv v0) w69 (kPu (eMv v10) w70 (kPu (eIdxA (nat_lit 1) v69 v70) w71 (kRd (eLd1 v71) w72 (kPu (eMv v0) w73 (kPu (eMv v9) w74 (kPu (eIdxA (nat_lit 1) v73 v74) w75 (kRd (eLd1 v75) w76 (kPu (eIdxA (nat_lit 1) v65 v66) w77 (kHv (eSt1 v77 v72) s0 (kPu (eIdxA (nat_lit 1) v67 v68) w78 (kHv (eSt1 v78 v76) s0 kEnd))))))))))))))))
 (kSeq (kPu (eMv v9) w79 (kPu (eBin fAdd .add (nat_lit 0) v79 (gC (n6 (nat_lit 1)))) w80 (kPu (eMv v80) w9 kEnd)))
 (kPu (eMv v10) w81 (kPu (eBin fSub .sub (nat_lit 0) v81 (gC (n6 (nat_lit 1)))) w82 (kPu (eMv v82) w10 kEnd)))))))))))
 (kSeq (kPu (eMv v9) w83 (kPu (eMv v83) w8 kEnd))
 kRt))))), none⟩
noncomputable def G40 : G := ⟨(nat_lit 168), Tr.fill undefV (nat_lit 168) (nat_lit 168), (rGen [(.t q8), (.t q9)]), (kSeq (kPu (eMv (gC (n6 (nat_lit 0)))) w8 (kPu (eMv (gC (.b false))) w9 kEnd))
 (kSeq (kPu (eMv v0) w12 (kPu (eMv v1) w13 (kPu (eMv v0) w14 (kPu (eMv v3) w15 (kPu (eMv v0) w16 (kPu (eMv v3) w17 (kPu (eIdxA (nat_lit 1) v16 v17) w18 (kRd (eLd1 v18) w19 (kPu (eMv v0) w20 (kPu (eMv v1) w21 (kPu (eIdxA (nat_lit 1) v20 v21) w22 (kRd (eLd1 v22) w23 (kPu (eIdxA (nat_lit 1) v12 v13) w24 (kHv (eSt1 v24 v19) s0 (kPu (eIdxA (nat_lit 1) v14 v15) w25 (kHv (eSt1 v25 v23) s0 kEnd))))))))))))))))
 (kSeq (kPu (eMv v1) w26 (kPu (eBin fAdd .add (nat_lit 0) v26 (gC (n6 (nat_lit 1)))) w27 (kPu (eMv v2) w28 (kPu (eBin fSub .sub (nat_lit 0) v28 (gC (n6 (nat_lit 1)))) w29 (kPu (eMv v27) w10 (kPu (eMv v29) w11 kEnd))))))
 (kSeq (kBlock (nat_lit 0) (kLoop (kSeq (kSeq (kPu (eMv v10) w30 (kPu (eMv v11) w31 (kPu (eBin fLeq .leq (nat_lit 0) v30 v31) w32 (kPu (eMv v32) w33 (kGd v33 true (kPu (eMv v0) w34) w34 (kGd v33 true (kPu (eMv v10) w35) w35 (kGd v33 true (kPu (eIdxA (nat_lit 1) v34 v35) w36) w36 (kGd v33 true (kRd (eLd1 v36) w37) w37 (kGd v33 true (kPu (eMv v0) w38) w38 (kGd v33 true (kPu (eMv v1) w39) w39 (kGd v33 true (kPu (eIdxA (nat_lit 1) v38 v39) w40) w40 (kGd v33 true (kRd (eLd1 v40) w41) w41 (kGd v33 true (kCall q38 [v37, v41] w42) w42 (kPu (eGen (.pick t33 t42 (.c (.b false)))) w43 kEnd))))))))))))))
 (kCond v43 kEnd (kExit (nat_lit 0))))
 (kBlock (nat_lit 1) (kPu (eMv v10) w44 (kPu (eBin fAdd .add (nat_lit 0) v44 (gC (n6 (nat_lit 1)))) w45 (kPu (eMv v45) w10 kEnd)))))))
 (kSeq (kBlock (nat_lit 2) (kLoop (kSeq (kSeq (kPu (eMv v10) w46 (kPu (eMv v11) w47 (kPu (eBin fLeq .leq (nat_lit 0) v46 v47) w48 (kPu (eMv v48) w49 (kGd v49 true (kPu (eMv v0) w50) w50 (kGd v49 true (kPu (eMv v11) w51) w51 (kGd v49 true (kPu (eIdxA (nat_lit 1) v50 v51) w52) w52 (kGd v49 true (kRd (eLd1 v52) w53) w53 (kGd v49 true (kPu (eMv v0) w54) w54 (kGd v49 true (kPu (eMv v1) w55) w55 (kGd v49 true (kPu (eIdxA (nat_lit 1) v54 v55) w56) w56 (kGd v49 true (kRd (eLd1 v56) w57) w57 (kGd v49 true (kCall q38 [v53, v57] w58) w58 (kGd v49 true (kPu (eGen (.un .not t58)) w59) w59 (kPu (eGen (.pick t49 t59 (.c (.b false)))) w60 kEnd)))))))))))))))
 (kCond v60 kEnd (kExit (nat_lit 2))))
 (kBlock (nat_lit 3) (kPu (eMv v11) w61 (kPu (eBin fSub .sub (nat_lit 0) v61 (gC (n6 (nat_lit 1)))) w62 (kPu (eMv v62) w11 kEnd)))))))
 (kSeq (kSeq (kPu (eMv v10) w63 (kPu (eMv v11) w64 (kPu (eBin fGtr .gtr (nat_lit 0) v63 v64) w65 kEnd)))
 (kCond v65 (kSeq (kPu (eMv v0) w66 (kPu (eMv v11) w67 (kPu (eMv v0) w68 (kPu (eMv v1) w69 (kPu (eMv v0) w70 (kPu (eMv v1) w71 (kPu (eIdxA (nat_lit 1) v70 v71) w72 (kRd (eLd1 v72) w73 (kPu (eMv v0) w74 (kPu (eMv v11) w75 (kPu (eIdxA (nat_lit 1) v74 v75) w76 (kRd (eLd1 v76) w77 (kPu (eIdxA (nat_lit 1) v66 v67) w78 (kHv (eSt1 v78 v73) s0 (kPu (eIdxA (nat_lit 1) v68 v69) w79 (kHv (eSt1 v79 v77) s0 kEnd))))))))))))))))
 (kSeq (kPu (eMv v11) w80 (kPu (eMv v80) w8 (kPu (eMv (gC (.b true))) w9 kEnd)))
 kRt)) kEnd))
 (kSeq (kPu (eMv v0) w81 (kPu (eMv v10) w82 (kPu (eMv v0) w83 (kPu (eMv v11) w84 (kPu (eMv v0) w85 (kPu (eMv v11) w86 (kPu (eIdxA (nat_lit 1) v85 v86) w87 (kRd (eLd1 v87) w88 (kPu (eMv v0) w89 (kPu (eMv v10) w90 (kPu (eIdxA (nat_lit 1) v89 v90) w91 (kRd (eLd1 v91) w92 (kPu (eIdxA (nat_lit 1) v81 v82) w93 (kHv (eSt1 v93 v88) s0 (kPu (eIdxA (nat_lit 1) v83 v84) w94 (kHv (eSt1 v94 v92) s0 kEnd))))))))))))))))
 (kSeq (kPu (eMv v10) w95 (kPu (eBin fAdd .add (nat_lit 0) v95 (gC (n6 (nat_lit 1)))) w96 (kPu (eMv v96) w10 kEnd)))
 (kSeq (kPu (eMv v11) w97 (kPu (eBin fSub .sub (nat_lit 0) v97 (gC (n6 (nat_lit 1)))) w98 (kPu (eMv v98) w11 kEnd)))
 (kSeq (kBlock (nat_lit 4) (kLoop (kBlock (nat_lit 5) (kSeq (kBlock (nat_lit 6) (kLoop (kSeq (kSeq (kPu (eMv v10) w99 (kPu (eMv v11) w100 (kPu (eBin fLeq .leq (nat_lit 0) v99 v100) w101 (kPu (eMv v101) w102 (kGd v102 true (kPu (eMv v0) w103) w103 (kGd v102 true (kPu (eMv v10) w104) w104 (kGd v102 true (kPu (eIdxA (nat_lit 1) v103 v104) w105) w105 (kGd v102 true (kRd (eLd1 v105) w106) w106 (kGd v102 true (kPu (eMv v0) w107) w107 (kGd v102 true (kPu (eMv v1) w108) w108 (kGd v102 true (kPu (eIdxA (nat_lit 1) v107 v108) w109) w109 (kGd v102 true (kRd (eLd1 v109) w110) w110 (kGd v102 true (kCall q38 [v106, v110] w111) w111 (kPu (eGen (.pick t102 t111 (.c (.b false)))) w112 kEnd))))))))))))))
 (kCond v112 kEnd (kExit (nat_lit 6))))
 (kBlock (nat_lit 7) (kPu (eMv v10) w113 (kPu (eBin fAdd .add (nat_lit 0) v113 (gC (n6 (nat_lit 1)))) w114 (kPu (eMv v114) w10 kEnd)))))))
 (kSeq (kBlock (nat_lit 8) (kLoop (kSeq (kSeq (kPu (eMv v10) w115 (kPu (eMv v11) w116 (kPu (eBin fLeq .leq (nat_lit 0) v115 v116) w117 (kPu (eMv v117) w118 (kGd v118 true (kPu (eMv v0) w119) w119 (kGd v118 true (kPu (eMv v11) w120) w120 (kGd v118 true (kPu (eIdxA (nat_lit 1) v119 v120) w121) w121 (kGd v118 true (kRd (eLd1 v121) w122) w122 (kGd v118 true (kPu (eMv v0) w123) w123 (kGd v118 true (kPu (eMv v1) w124) w124 (kGd v118 true (kPu (eIdxA (nat_lit 1) v123 v124) w125) w125 (kGd v118 true (kRd (eLd1 v125) w126) w126 (kGd v118 true (kCall q38 [v122, v126] w127) w127 (kGd v118 true (kPu (eGen (.un .not t127)) w128) w128 (kPu (eGen (.pick t118 t128 (.c (.b false)))) w129 kEnd)))))))))))))))
 (kCond v129 kEnd (kExit (nat_lit 8))))
 (kBlock (nat_lit 9) (kPu (eMv v11) w130 (kPu (eBin fSub .sub (nat_lit 0) v130 (gC (n6 (nat_lit 1)))) w131 (kPu (eMv v131) w11 kEnd)))))))
 (kSeq (kSeq (kPu (eMv v10) w132 (kPu (eMv v11) w133 (kPu (eBin fGtr .gtr (nat_lit 0) v132 v133) w134 kEnd)))
 (kCond v134 (kExit (nat_lit 4)) kEnd))
 (kSeq (kPu (eMv v0) w135 (kPu (eMv v10) w136 (kPu (eMv v0) w137 (kPu (eMv v11) w138 (kPu (eMv v0) w139 (kPu (eMv v11) w140 (kPu (eIdxA (nat_lit 1) v139 v140) w141 (kRd (eLd1 v141) w142 (kPu (eMv v0) w143 (kPu (eMv v10) w144 (kPu (eIdxA (nat_lit 1) v143 v144) w145 (kRd (eLd1 v145) w146 (kPu (eIdxA (nat_lit 1) v135 v136) w147 (kHv (eSt1 v147 v142) s0 (kPu (eIdxA (nat_lit 1) v137 v138) w148 (kHv (eSt1 v148 v146) s0 kEnd))))))))))))))))
 (kSeq (kPu (eMv v10) w149 (kPu (eBin fAdd .add (nat_lit 0) v149 (gC (n6 (nat_lit 1)))) w150 (kPu (eMv v150) w10 kEnd)))
 (kPu (eMv v11) w151 (kPu (eBin fSub .sub (nat_lit 0) v151 (gC (n6 (nat_lit 1)))) w152 (kPu (eMv v152) w11 kEnd)))))))))))
 (kSeq (kPu (eMv v0) w153 (kPu (eMv v11) w154 (kPu (eMv v0) w155 (kPu (eMv v1) w156 (kPu (eMv v0) w157 (kPu (eMv v1) w158 (kPu (eIdxA (nat_lit 1) v157 v158) w159 (kRd (eLd1 v159) w160 (kPu (eMv v0) w161 (kPu (eMv v11) w162 (kPu (eIdxA (nat_lit 1) v161 v162) w163 (kRd (eLd1 v163) w164 (kPu (eIdxA (nat_lit 1) v153 v154) w165 (kHv (eSt1 v165 v160) s0 (kPu (eIdxA (nat_lit 1) v155 v156) w166 (kHv (eSt1 v166 v164) s0 kEnd))))))))))))))))
 (kSeq (kPu (eMv v11) w167 (kPu (eMv v167) w8 (kPu (eMv (gC (.b false))) w9 kEnd)))
 kRt)))))))))))), none⟩
noncomputable def G41 : G := ⟨(nat_lit 19), Tr.fill undefV (nat_lit 19) (nat_lit 19), (rOne v2), (kSeq (kPu (eMv (gC (n6 (nat_lit 0)))) w2 kEnd)
 (kSeq (kSeq (kPu (eMv v0) w3 (kPu (eBin fGeq .geq (nat_lit 0) v3 (gC (.i .u32 (.ofNat (nat_lit 65536))))) w4 kEnd))
 (kCond v4 (kSeq (kPu (eMv v0) w5 (kPu (eBin fShr .shr (nat_lit 0) v5 (gC (.i .u64 (.ofNat (nat_lit 16))))) w6 (kPu (eMv v6) w0 kEnd)))
 (kPu (eMv (gC (n6 (nat_lit 16)))) w2 kEnd)) kEnd))
 (kSeq (kSeq (kPu (eMv v0) w7 (kPu (eBin fGeq .geq (nat_lit 0) v7 (gC (.i .u32 (.ofNat (nat_lit 256))))) w8 kEnd))
 (kCond v8 (kSeq (kPu (eMv v0) w9 (kPu (eBin fShr .shr (nat_lit 0) v9 (gC (.i .u64 (.ofNat (nat_lit 8))))) w10 (kPu (eMv v10) w0 kEnd)))
 (kPu (eMv v2) w11 (kPu (eBin fAdd .add (nat_lit 0) v11 (gC (n6 (nat_lit 8)))) w12 (kPu (eMv v12) w2 kEnd)))) kEnd))
 (kSeq (kPu (eMv v2) w13 (kPu (eMv v0) w14 (kPu (eConv .u8 v14) w15 (kPu (eIdxS (gC (.s [(nat_lit 0), (nat_lit 1), (nat_lit 2), (nat_lit 2), (nat_lit 3), (nat_lit 3), (nat_lit 3), (nat_lit 3), (nat_lit 4), (nat_lit 4), (nat_lit 4), (nat_lit 4), (nat_lit 4), (nat_lit 4), (nat_lit 4), (nat_lit 4), (nat_lit 5), (nat_lit 5), (nat_lit 5), (nat_lit 5), (nat_lit 5), (nat_lit 5), (nat_lit 5), (nat_lit 5), (nat_lit 5), (nat_lit 5), (nat_lit 5), (nat_lit 5), (nat_lit 5), (nat_lit 5), (nat_lit 5), (nat_lit 5), (nat_lit 6), (nat_lit 6), (nat_lit 6), (nat_lit 6), (nat_lit 6), (nat_lit 6), (nat_lit 6), (nat_lit 6), (nat_lit 6), (nat_lit 6), (nat_lit 6), (nat_lit 6), (nat_lit 6), (nat_lit 6), (nat_lit 6), (nat_lit 6), (nat_lit 6), (nat_lit 6), (nat_lit 6), (nat_lit 6), (nat_lit 6), (nat_lit 6), (nat_lit 6), (nat_lit 6), (nat_lit 6), (nat_lit 6), (nat_lit 6), (nat_lit 6), (nat_lit 6), (nat_lit 6), (nat_lit 6), (nat_lit 6), (nat_lit 7), (nat_lit 7), (nat_lit 7), (nat_lit 7), (nat_lit 7), (nat_lit 7), (nat_lit 7), (nat_lit 7), (nat_lit 7), (nat_lit 7), (nat_lit 7), (nat_lit 7), (nat_lit 7), (nat_lit 7), (nat_lit 7), (nat_lit 7), (nat_lit 7), (nat_lit 7), (nat_lit 7), (nat_lit 7), (nat_lit 7), (nat_lit 7), (nat_lit 7), (nat_lit 7), (nat_lit 7), (nat_lit 7), (nat_lit 7), (nat_lit 7), (nat_lit 7), (nat_lit 7), (nat_lit 7), (nat_lit 7), (nat_lit 7), (nat_lit 7), (nat_lit 7), (nat_lit 7), (nat_lit 7), (nat_lit 7), (nat_lit 7), (nat_lit 7), (nat_lit 7), (nat_lit 7), (nat_lit 7), (nat_lit 7), (nat_lit 7), (nat_lit 7), (nat_lit 7), (nat_lit 7), (nat_lit 7), (nat_lit 7), (nat_lit 7), (nat_lit 7), (nat_lit 7), (nat_lit 7), (nat_lit 7), (nat_lit 7), (nat_lit 7), (nat_lit 7), (nat_lit 7), (nat_lit 7), (nat_lit 7), (nat_lit 7), (nat_lit 7), (nat_lit 7), (nat_lit 8), (nat_lit 8), (nat_lit 8), (nat_lit 8), (nat_lit 8), (nat_lit 8), (nat_lit 8), (nat_lit 8), (nat_lit 8), (nat_lit 8), (nat_lit 8), (nat_lit 8), (nat_lit 8), (nat_lit 8), (nat_lit 8), (nat_lit 8), (nat_lit 8), (nat_lit 8), (nat_lit 8), (nat_lit 8), (nat_lit 8), (nat_lit 8), (nat_lit 8), (nat_lit 8), (nat_lit 8), (nat_lit 8), (nat_lit 8), (nat_lit 8), (nat_lit 8), (nat_lit 8), (nat_lit 8), (nat_lit 8), (nat_lit 8), (nat_lit 8), (nat_lit 8), (nat_lit 8), (nat_lit 8), (nat_lit 8), (nat_lit 8), (nat_lit 8), (nat_lit 8), (nat_lit 8), (nat_lit 8), (nat_lit 8), (nat_lit 8), (nat_lit 8), (nat_lit 8), (nat_lit 8), (nat_lit 8), (nat_lit 8), (nat_lit 8), (nat_lit 8), (nat_lit 8), (nat_lit 8), (nat_lit 8), (nat_lit 8), (nat_lit 8), (nat_lit 8), (nat_lit 8), (nat_lit 8), (nat_lit 8), (nat_lit 8), (nat_lit 8), (nat_lit 8), (nat_lit 8), (nat_lit 8), (nat_lit 8), (nat_lit 8), (nat_lit 8), (nat_lit 8), (nat_lit 8), (nat_lit 8), (nat_lit 8), (nat_lit 8), (nat_lit 8), (nat_lit 8), (nat_lit 8), (nat_lit 8), (nat_lit 8), (nat_lit 8), (nat_lit 8), (nat_lit 8), (nat_lit 8), (nat_lit 8), (nat_lit 8), (nat_lit 8), (nat_lit 8), (nat_lit 8), (nat_lit 8), (nat_lit 8), (nat_lit 8), (nat_lit 8), (nat_lit 8), (nat_lit 8), (nat_lit 8), (nat_lit 8), (nat_lit 8), (nat_lit 8), (nat_lit 8), (nat_lit 8), (nat_lit 8), (nat_lit 8), (nat_lit 8), (nat_lit 8), (nat_lit 8), (nat_lit 8), (nat_lit 8), (nat_lit 8), (nat_lit 8), (nat_lit 8), (nat_lit 8), (nat_lit 8), (nat_lit 8), (nat_lit 8), (nat_lit 8), (nat_lit 8), (nat_lit 8), (nat_lit 8), (nat_lit 8), (nat_lit 8), (nat_lit 8), (nat_lit 8), (nat_lit 8), (nat_lit 8), (nat_lit 8), (nat_lit 8), (nat_lit 8), (nat_lit 8)])) v15) w16 (kPu (eConv .i64 v16) w17 (kPu (eBin fAdd .add (nat_lit 0) v13 v17) w18 (kPu (eMv v18) w2 kEnd)))))))
 kRt)))), none⟩
noncomputable def G42 : G := ⟨(nat_lit 25), Tr.fill undefV (nat_lit 25) (nat_lit 25), (rOne v2), (kSeq (kPu (eMv (gC (n6 (nat_lit 0)))) w2 kEnd)
 (kSeq (kSeq (kPu (eMv v0) w3 (kPu (eBin fGeq .geq (nat_lit 0) v3 (gC (.i .u64 (.ofNat (nat_lit 4294967296))))) w4 kEnd))
 (kCond v4 (kSeq (kPu (eMv v0) w5 (kPu (eBin fShr .shr (nat_lit 0) v5 (gC (.i .u64 (.ofNat (nat_lit 32))))) w6 (kPu (eMv v6) w0 kEnd)))
 (kPu (eMv (gC (n6 (nat_lit 32)))) w2 kEnd)) kEnd))
 (kSeq (kSeq (kPu (eMv v0) w7 (kPu (eBin fGeq .geq (nat_lit 0) v7 (gC (.i .u64 (.ofNat (nat_lit 65536))))) w8 kEnd))
 (kCond v8 (kSeq (kPu (eMv v0) w9 (kPu (eBin fShr .shr (nat_lit 0) v9 (gC (.i .u64 (.ofNat (nat_lit 16))))) w10 (kPu (eMv v10) w0 kEnd)))
 (kPu (eMv v2) w11 (kPu (eBin fAdd .add (nat_lit 0) v11 (gC (n6 (nat_lit 16)))) w12 (kPu (eMv v12) w2 kEnd)))) kEnd))
 (kSeq (kSeq (kPu (eMv v0) w13 (kPu (eBin fGeq .geq (nat_lit 0) v13 (gC (.i .u64 (.ofNat (nat_lit 256))))) w14 kEnd))
 (kCond v14 (kSeq (kPu (eMv v0) w15 (kPu (eBin fShr .shr (nat_lit 0) v15 (gC (.i .u64 (.ofNat (nat_lit 8))))) w16 (kPu (eMv v16) w0 kEnd)))
 (kPu (eMv v2) w17 (kPu (eBin fAdd .add (nat_lit 0) v17 (gC (n6 (nat_lit 8)))) w18 (kPu (eMv v18) w2 kEnd)))) kEnd))
 (kSeq (kPu (eMv v2) w19 (kPu (eMv v0) w20 (kPu (eConv .u8 v20) w21 (kPu (eIdxS (gC (.s [(nat_lit 0), (nat_lit 1), (nat_lit 2), (nat_lit 2), (nat_lit 3), (nat_lit 3), (nat_lit 3), (nat_lit 3), (nat_lit 4), (nat_lit 4), (nat_lit 4), (nat_lit 4), (nat_lit 4), (nat_lit 4), (nat_lit 4), (nat_lit 4), (nat_lit 5), (nat_lit 5), (nat_lit 5), (nat_lit 5), (nat_lit 5), (nat_lit 5), (nat_lit 5), (nat_lit 5), (nat_lit 5), (nat_lit 5), (nat_lit 5), (nat_lit 5), (nat_lit 5), (nat_lit 5), (nat_lit 5), (nat_lit 5), (nat_lit 6), (nat_lit 6), (nat_lit 6), (nat_lit 6), (nat_lit 6), (nat_lit 6), (nat_lit 6), (nat_lit 6), (nat_lit 6), (nat_lit 6), (nat_lit 6), (nat_lit 6), (nat_lit 6), (nat_lit 6), (nat_lit 6), (nat_lit 6), (nat_lit 6), (nat_lit 6), (nat_lit 6), (nat_lit 6), (nat_lit 6), (nat_lit 6), (nat_lit 6), (nat_lit 6), (nat_lit 6), (nat_lit 6), (nat_lit 6), (nat_lit 6), (nat_lit 6), (nat_lit 6), (nat_lit 6), (nat_lit 6), (nat_lit 7), (nat_lit 7), (nat_lit 7), (nat_lit 7), (nat_lit 7), (nat_lit 7), (nat_lit 7), (nat_lit 7), (nat_lit 7), (nat_lit 7), (nat_lit 7), (nat_lit 7), (nat_lit 7), (nat_lit 7), (nat_lit 7), (nat_lit 7), (nat_lit 7), (nat_lit 7), (nat_lit 7), (nat_lit 7), (nat_lit 7), (nat_lit 7), (nat_lit 7), (nat_lit 7), (nat_lit 7), (nat_lit 7), (nat_lit 7), (nat_lit 7), (nat_lit 7), (nat_lit 7), (nat_lit 7), (nat_lit 7), (nat_lit 7), (nat_lit 7), (nat_lit 7), (nat_lit 7), (nat_lit 7), (nat_lit 7), (nat_lit 7), (nat_lit 7), (nat_lit 7), (nat_lit 7), (nat_lit 7), (nat_lit 7), (nat_lit 7), (nat_lit 7), (nat_lit 7), (nat_lit 7), (nat_lit 7), (nat_lit 7), (nat_lit 7), (nat_lit 7), (nat_lit 7), (nat_lit 7), (nat_lit 7), (nat_lit 7), (nat_lit 7), (nat_lit 7), (nat_lit 7), (nat_lit 7), (nat_lit 7), (nat_lit 7), (nat_lit 7), (nat_lit 7), (nat_lit 8), (nat_lit 8), (nat_lit 8), (nat_lit 8), (nat_lit 8), (nat_lit 8), (nat_lit 8), (nat_lit 8), (nat_lit 8), (nat_lit 8), (nat_lit 8), (nat_lit 8), (nat_lit 8), (nat_lit 8), (nat_lit 8), (nat_lit 8), (nat_lit 8), (nat_lit 8), (nat_lit 8), (nat_lit 8), (nat_lit 8), (nat_lit 8), (nat_lit 8), (nat_lit 8), (nat_lit 8), (nat_lit 8), (nat_lit 8), (nat_lit 8), (nat_lit 8), (nat_lit 8), (nat_lit 8), (nat_lit 8), (nat_lit 8), (nat_lit 8), (nat_lit 8), (nat_lit 8), (nat_lit 8), (nat_lit 8), (nat_lit 8), (nat_lit 8), (nat_lit 8), (nat_lit 8), (nat_lit 8), (nat_lit 8), (nat_lit 8), (nat_lit 8), (nat_lit 8), (nat_lit 8), (nat_lit 8), (nat_lit 8), (nat_lit 8), (nat_lit 8), (nat_lit 8), (nat_lit 8), (nat_lit 8), (nat_lit 8), (nat_lit 8), (nat_lit 8), (nat_lit 8), (nat_lit 8), (nat_lit 8), (nat_lit 8), (nat_lit 8), (nat_lit 8), (nat_lit 8), (nat_lit 8), (nat_lit 8), (nat_lit 8), (nat_lit 8), (nat_lit 8), (nat_lit 8), (nat_lit 8), (nat_lit 8), (nat_lit 8), (nat_lit 8), (nat_lit 8), (nat_lit 8), (nat_lit 8), (nat_lit 8), (nat_lit 8), (nat_lit 8), (nat_lit 8), (nat_lit 8), (nat_lit 8), (nat_lit 8), (nat_lit 8), (nat_lit 8), (nat_lit 8), (nat_lit 8), (nat_lit 8), (nat_lit 8), (nat_lit 8), (nat_lit 8), (nat_lit 8), (nat_lit 8), (nat_lit 8), (nat_lit 8), (nat_lit 8), (nat_lit 8), (nat_lit 8), (nat_lit 8), (nat_lit 8), (nat_lit 8), (nat_lit 8), (nat_lit 8), (nat_lit 8), (nat_lit 8), (nat_lit 8), (nat_lit 8), (nat_lit 8), (nat_lit 8), (nat_lit 8), (nat_lit 8), (nat_lit 8), (nat_lit 8), (nat_lit 8), (nat_lit 8), (nat_lit 8), (nat_lit 8), (nat_lit 8), (nat_lit 8), (nat_lit 8), (nat_lit 8), (nat_lit 8), (nat_lit 8), (nat_lit 8), (nat_lit 8), (nat_lit 8)])) v21) w22 (kPu (eConv .i64 v22) w23 (kPu (eBin fAdd .add (nat_lit 0) v19 v23) w24 (kPu (eMv v24) w2 kEnd)))))))
 kRt))))), none⟩
noncomputable def G43 : G := ⟨(nat_lit 53), Tr.fill undefV (nat_lit 53) (nat_lit 53), (rGen []), (kSeq (kPu (eMv v1) w10 (kPu (eBin fAdd .add (nat_lit 0) v10 (gC (n6 (nat_lit 1)))) w11 (kPu (eMv v11) w8 kEnd)))
 (kBlock (nat_lit 0) (kLoop (kSeq (kSeq (kPu (eMv v8) w12 (kPu (eMv v2) w13 (kPu (eBin fLss .lss (nat_lit 0) v12 v13) w14 kEnd)))
 (kCond v14 kEnd (kExit (nat_lit 0))))
 (kSeq (kBlock (nat_lit 1) (kSeq (kPu (eMv v8) w17 (kPu (eMv v17) w9 kEnd))
 (kBlock (nat_lit 2) (kLoop (kSeq (kSeq (kPu (eMv v9) w18 (kPu (eMv v1) w19 (kPu (eBin fGtr .gtr (nat_lit 0) v18 v19) w20 (kPu (eMv v20) w21 (kGd v21 true (kPu (eMv v3) w22) w22 (kGd v21 true (kPu (eMv v0) w23) w23 (kGd v21 true (kPu (eMv v9) w24) w24 (kGd v21 true (kPu (eIdxA (nat_lit 2) v23 v24) w25) w25 (kGd v21 true (kRd (eLdA (nat_lit 2) v25) w26) w26 (kGd v21 true (kPu (eMv v0) w27) w27 (kGd v21 true (kPu (eMv v9) w28) w28 (kGd v21 true (kPu (eBin fSub .sub (nat_lit 0) v28 (gC (n6 (nat_lit 1)))) w29) w29 (kGd v21 true (kPu (eIdxA (nat_lit 2) v27 v29) w30) w30 (kGd v21 true (kRd (eLdA (nat_lit 2) v30) w31) w31 (kGd v21 true (kHv (eHG (.callv t22 [t26, t31])) w32) w32 (kGd v21 true (kPu (eBin fLss .lss (nat_lit 0) v32 (gC (n6 (nat_lit 0)))) w33) w33 (kPu (eGen (.pick t21 t33 (.c (.b false)))) w34 kEnd)))))))))))))))))
 (kCond v34 kEnd (kExit (nat_lit 2))))
 (kSeq (kBlock (nat_lit 3) (kPu (eMv v0) w37 (kPu (eMv v9) w38 (kPu (eMv v0) w39 (kPu (eMv v9) w40 (kPu (eBin fSub .sub (nat_lit 0) v40 (gC (n6 (nat_lit 1)))) w41 (kPu (eMv v0) w42 (kPu (eMv v9) w43 (kPu (eBin fSub .sub (nat_lit 0) v43 (gC (n6 (nat_lit 1)))) w44 (kPu (eIdxA (nat_lit 2) v42 v44) w45 (kRd (eLdA (nat_lit 2) v45) w46 (kPu (eMv v0) w47 (kPu (eMv v9) w48 (kPu (eIdxA (nat_lit 2) v47 v48) w49 (kRd (eLdA (nat_lit 2) v49) w50 (kPu (eIdxA (nat_lit 2) v37 v38) w51 (kHv (eStN (nat_lit 2) v51 v46) s0 (kPu (eIdxA (nat_lit 2) v39 v41) w52 (kHv (eStN (nat_lit 2) v52 v50) s0 kEnd)))))))))))))))))))
 (kPu (eMv v9) w35 (kPu (eBin fSub .sub (nat_lit 0) v35 (gC (n6 (nat_lit 1)))) w36 (kPu (eMv v36) w9 kEnd)))))))))
 (kPu (eMv v8) w15 (kPu (eBin fAdd .add (nat_lit 0) v15 (gC (n6 (nat_lit 1)))) w16 (kPu (eMv v16) w8 kEnd)))))))), none⟩
noncomputable def G44 : G := ⟨(nat_lit 60), Tr.fill undefV (nat_lit 60) (nat_lit 60), (rGen []), (kSeq (kPu (eMv v1) w13 (kPu (eMv v13) w8 kEnd))
 (kSeq (kPu (eMv (gC (n6 (nat_lit 0)))) w9 kEnd)
 (kSeq (kPu (eMv v2) w14 (kPu (eMv v1) w15 (kPu (eBin fSub .sub (nat_lit 0) v14 v15) w16 (kPu (eMv v16) w10 kEnd))))
 (kSeq (kSeq (kPu (eMv v10) w17 (kPu (eBin fSub .sub (nat_lit 0) v17 (gC (n6 (nat_lit 1)))) w18 (kPu (eBin fQuo .quo (nat_lit 0) v18 (gC (n6 (nat_lit 2)))) w19 (kPu (eMv v19) w11 kEnd))))
 (kBlock (nat_lit 0) (kLoop (kSeq (kSeq (kPu (eMv v11) w20 (kPu (eBin fGeq .geq (nat_lit 0) v20 (gC (n6 (nat_lit 0)))) w21 kEnd))
 (kCond v21 kEnd (kExit (nat_lit 0))))
 (kSeq (kBlock (nat_lit 1) (kPu (eMv v0) w24 (kPu (eMv v11) w25 (kPu (eMv v10) w26 (kPu (eMv v8) w27 (kPu (eMv v3) w28 (kCall q57 [v24, v25, v26, v27, v28] w29 kEnd)))))))
 (kPu (eMv v11) w22 (kPu (eBin fSub .sub (nat_lit 0) v22 (gC (n6 (nat_lit 1)))) w23 (kPu (eMv v23) w11 kEnd))))))))
 (kSeq (kPu (eMv v10) w30 (kPu (eBin fSub .sub (nat_lit 0) v30 (gC (n6 (nat_lit 1)))) w31 (kPu (eMv v31) w12 kEnd)))
 (kBlock (nat_lit 2) (kLoop (kSeq (kSeq (kPu (eMv v12) w32 (kPu (eBin fGeq .geq (nat_lit 0) v32 (gC (n6 (nat_lit 0)))) w33 kEnd))
 (kCond v33 kEnd (kExit (nat_lit 2))))
 (kSeq (kBlock (nat_lit 3) (kSeq (kPu (eMv v0) w36 (kPu (eMv v8) w37 (kPu (eMv v0) w38 (kPu (eMv v8) w39 (kPu (eMv v12) w40 (kPu (eBin fAdd .add (nat_lit 0) v39 v40) w41 (kPu (eMv v0) w42 (kPu (eMv v8) w43 (kPu (eMv v12) w44 (kPu (eBin fAdd .add (nat_lit 0) v43 v44) w45 (kPu (eIdxA (nat_lit 2) v42 v45) w46 (kRd (eLdA (nat_lit 2) v46) w47 (kPu (eMv v0) w48 (kPu (eMv v8) w49 (kPu (eIdxA (nat_lit 2) v48 v49) w50 (kRd (eLdA (nat_lit 2) v50) w51 (kPu (eIdxA (nat_lit 2) v36 v37) w52 (kHv (eStN (nat_lit 2) v52 v47) s0 (kPu (eIdxA (nat_lit 2) v38 v41) w53 (kHv (eStN (nat_lit 2) v53 v51) s0 kEnd))))))))))))))))))))
 (kPu (eMv v0) w54 (kPu (eMv v9) w55 (kPu (eMv v12) w56 (kPu (eMv v8) w57 (kPu (eMv v3) w58 (kCall q57 [v54, v55, v56, v57, v58] w59 kEnd))))))))
 (kPu (eMv v12) w34 (kPu (eBin fSub .sub (nat_lit 0) v34 (gC (n6 (nat_lit 1)))) w35 (kPu (eMv v35) w12 kEnd)))))))))))), none⟩
noncomputable def G45 : G := ⟨(nat_lit 67), Tr.fill undefV (nat_lit 67) (nat_lit 67), (rGen []), (kSeq (kPu (eMv v2) w13 (kPu (eMv v1) w14 (kPu (eBin fSub .sub (nat_lit 0) v13 v14) w15 (kPu (eMv v15) w8 kEnd))))
 (kSeq (kPu (eMv v8) w16 (kPu (eBin fGeq .geq (nat_lit 0) v16 (gC (n6 (nat_lit 8)))) w17 kEnd))
 (kCond v17 (kSeq (kPu (eMv v8) w18 (kPu (eConv .u64 v18) w19 (kAl (eA (.alloc [(.i .u64 (.ofNat (nat_lit 0)))] (nat_lit 73))) w9 (kHv (eSt1 v9 v19) s0 kEnd))))
 (kSeq (kPu (eMv v8) w20 (kCall q52 [v20] w21 (kPu (eMv v21) w10 kEnd)))
 (kSeq (kPu (eMv v1) w22 (kPu (eMv v8) w23 (kPu (eBin fQuo .quo (nat_lit 0) v23 (gC (n6 (nat_lit 4)))) w24 (kPu (eBin fMul .mul (nat_lit 0) v24 (gC (n6 (nat_lit 2)))) w25 (kPu (eBin fAdd .add (nat_lit 0) v22 v25) w26 (kPu (eBin fSub .sub (nat_lit 0) v26 (gC (n6 (nat_lit 1)))) w27 (kPu (eMv v27) w11 kEnd)))))))
 (kBlock (nat_lit 0) (kLoop (kSeq (kSeq (kPu (eMv v11) w28 (kPu (eMv v1) w29 (kPu (eMv v8) w30 (kPu (eBin fQuo .quo (nat_lit 0) v30 (gC (n6 (nat_lit 4)))) w31 (kPu (eBin fMul .mul (nat_lit 0) v31 (gC (n6 (nat_lit 2)))) w32 (kPu (eBin fAdd .add (nat_lit 0) v29 v32) w33 (kPu (eBin fAdd .add (nat_lit 0) v33 (gC (n6 (nat_lit 1)))) w34 (kPu (eBin fLeq .leq (nat_lit 0) v28 v34) w35 kEnd))))))))
 (kCond v35 kEnd (kExit (nat_lit 0))))
 (kSeq (kBlock (nat_lit 1) (kSeq (kCall q53 [v9] w38 (kPu (eMv v10) w39 (kPu (eBin fSub .sub (nat_lit 0) v39 (gC (.i .u64 (.ofNat (nat_lit 1))))) w40 (kPu (eBin fAnd .and (nat_lit 0) v38 v40) w41 (kPu (eConv .i64 v41) w42 (kPu (eMv v42) w12 kEnd))))))
 (kSeq (kSeq (kPu (eMv v12) w43 (kPu (eMv v8) w44 (kPu (eBin fGeq .geq (nat_lit 0) v43 v44) w45 kEnd)))
 (kCond v45 (kPu (eMv v12) w46 (kPu (eMv v8) w47 (kPu (eBin fSub .sub (nat_lit 0) v46 v47) w48 (kPu (eMv v48) w12 kEnd)))) kEnd))
 (kPu (eMv v0) w49 (kPu (eMv v11) w50 (kPu (eMv v0) w51 (kPu (eMv v1) w52 (kPu (eMv v12) w53 (kPu (eBin fAdd .add (nat_lit 0) v52 v53) w54 (kPu (eMv v0) w55 (kPu (eMv v1) w56 (kPu (eMv v12) w57 (kPu (eBin fAdd .add (nat_lit 0) v56 v57) w58 (kPu (eIdxA (nat_lit 2) v55 v58) w59 (kRd (eLdA (nat_lit 2) v59) w60 (kPu (eMv v0) w61 (kPu (eMv v11) w62 (kPu (eIdxA (nat_lit 2) v61 v62) w63 (kRd (eLdA (nat_lit 2) v63) w64 (kPu (eIdxA (nat_lit 2) v49 v50) w65 (kHv (eStN (nat_lit 2) v65 v60) s0 (kPu (eIdxA (nat_lit 2) v51 v54) w66 (kHv (eStN (nat_lit 2) v66 v64) s0 kEnd)))))))))))))))))))))))
 (kPu (eMv v11) w36 (kPu (eBin fAdd .add (nat_lit 0) v36 (gC (n6 (nat_lit 1)))) w37 (kPu (eMv v37) w11 kEnd)))))))))) kEnd))), none⟩
noncomputable def G46 : G := ⟨(nat_lit 63), Tr.fill undefV (nat_lit 63) (nat_lit 63), (rGen [(.t q8), (.t q9)]), (kSeq (kPu (eMv (gC (n6 (nat_lit 0)))) w8 (kPu (eMv (gC (n6 (nat_lit 0)))) w9 kEnd))
 (kSeq (kPu (eMv v2) w15 (kPu (eMv v1) w16 (kPu (eBin fSub .sub (nat_lit 0) v15 v16) w17 (kPu (eMv v17) w10 kEnd))))
 (kSeq (kAl (eA (.alloc [(n6 (nat_lit 0))] (nat_lit 3))) w11 kEnd)
 (kSeq (kPu (eMv v1) w18 (kPu (eMv v10) w19 (kPu (eBin fQuo .quo (nat_lit 0) v19 (gC (n6 (nat_lit 4)))) w20 (kPu (eBin fMul .mul (nat_lit 0) v20 (gC (n6 (nat_lit 1)))) w21 (kPu (eBin fAdd .add (nat_lit 0) v18 v21) w22 (kPu (eMv v22) w12 kEnd))))))
 (kSeq (kPu (eMv v1) w23 (kPu (eMv v10) w24 (kPu (eBin fQuo .quo (nat_lit 0) v24 (gC (n6 (nat_lit 4)))) w25 (kPu (eBin fMul .mul (nat_lit 0) v25 (gC (n6 (nat_lit 2)))) w26 (kPu (eBin fAdd .add (nat_lit 0) v23 v26) w27 (kPu (eMv v27) w13 kEnd))))))
 (kSeq (kPu (eMv v1) w28 (kPu (eMv v10) w29 (kPu (eBin fQuo .quo (nat_lit 0) v29 (gC (n6 (nat_lit 4)))) w30 (kPu (eBin fMul .mul (nat_lit 0) v30 (gC (n6 (nat_lit 3)))) w31 (kPu (eBin fAdd .add (nat_lit 0) v28 v31) w32 (kPu (eMv v32) w14 kEnd))))))
 (kSeq (kSeq (kPu (eMv v10) w33 (kPu (eBin fGeq .geq (nat_lit 0) v33 (gC (n6 (nat_lit 8)))) w34 kEnd))
 (kCond v34 (kSeq (kSeq (kPu (eMv v10) w35 (kPu (eBin fGeq .geq (nat_lit 0) v35 (gC (n6 (nat_lit 50)))) w36 kEnd))
 (kCond v36 (kSeq (kPu (eMv v0) w37 (kPu (eMv v12) w38 (kPu (eMv v3) w39 (kCall q58 [v37, v38, v11, v39] w40 (kPu (eMv v40) w12 kEnd)))))
 (kSeq (kPu (eMv v0) w41 (kPu (eMv v13) w42 (kPu (eMv v3) w43 (kCall q58 [v41, v42, v11, v43] w44 (kPu (eMv v44) w13 kEnd)))))
 (kPu (eMv v0) w45 (kPu (eMv v14) w46 (kPu (eMv v3) w47 (kCall q58 [v45, v46, v11, v47] w48 (kPu (eMv v48) w14 kEnd))))))) kEnd))
 (kPu (eMv v0) w49 (kPu (eMv v12) w50 (kPu (eMv v13) w51 (kPu (eMv v14) w52 (kPu (eMv v3) w53 (kCall q59 [v49, v50, v51, v52, v11, v53] w54 (kPu (eMv v54) w13 kEnd)))))))) kEnd))
 (kSeq (kRd (eLd1 v11) w55 kEnd)
 (kBlock (nat_lit 0) (kSeq (kPu (eBin fEql .eql (nat_lit 0) v55 (gC (n6 (nat_lit 0)))) w58 (kPu (eMv v58) w57 kEnd))
 (kCond v57 (kSeq (kPu (eMv v13) w59 (kPu (eMv v59) w8 (kPu (eMv (gC (n6 (nat_lit 1)))) w9 kEnd)))
 kRt) (kSeq (kPu (eBin fEql .eql (nat_lit 0) v55 (gC (n6 (nat_lit 12)))) w61 (kPu (eMv v61) w60 kEnd))
 (kCond v60 (kSeq (kPu (eMv v13) w62 (kPu (eMv v62) w8 (kPu (eMv (gC (n6 (nat_lit 2)))) w9 kEnd)))
 kRt) (kSeq (kPu (eMv v13) w56 (kPu (eMv v56) w8 (kPu (eMv (gC (n6 (nat_lit 0)))) w9 kEnd)))
 kRt)))))))))))))), none⟩
noncomputable def G47 : G := ⟨(nat_lit 34), Tr.fill undefV (nat_lit 34) (nat_lit 34), (rGen []), (kSeq (kPu (eMv v1) w10 (kPu (eMv v10) w8 kEnd))
 (kSeq (kPu (eMv v2) w11 (kPu (eBin fSub .sub (nat_lit 0) v11 (gC (n6 (nat_lit 1)))) w12 (kPu (eMv v12) w9 kEnd)))
 (kBlock (nat_lit 0) (kLoop (kSeq (kSeq (kPu (eMv v8) w13 (kPu (eMv v9) w14 (kPu (eBin fLss .lss (nat_lit 0) v13 v14) w15 kEnd)))
 (kCond v15 kEnd (kExit (nat_lit 0))))
 (kBlock (nat_lit 1) (kSeq (kPu (eMv v0) w16 (kPu (eMv v8) w17 (kPu (eMv v0) w18 (kPu (eMv v9) w19 (kPu (eMv v0) w20 (kPu (eMv v9) w21 (kPu (eIdxA (nat_lit 2) v20 v21) w22 (kRd (eLdA (nat_lit 2) v22) w23 (kPu (eMv v0) w24 (kPu (eMv v8) w25 (kPu (eIdxA (nat_lit 2) v24 v25) w26 (kRd (eLdA (nat_lit 2) v26) w27 (kPu (eIdxA (nat_lit 2) v16 v17) w28 (kHv (eStN (nat_lit 2) v28 v23) s0 (kPu (eIdxA (nat_lit 2) v18 v19) w29 (kHv (eStN (nat_lit 2) v29 v27) s0 kEnd))))))))))))))))
 (kSeq (kPu (eMv v8) w30 (kPu (eBin fAdd .add (nat_lit 0) v30 (gC (n6 (nat_lit 1)))) w31 (kPu (eMv v31) w8 kEnd)))
 (kPu (eMv v9) w32 (kPu (eBin fSub .sub (nat_lit 0) v32 (gC (n6 (nat_lit 1)))) w33 (kPu (eMv v33) w9 kEnd))))))))))), none⟩
noncomputable def G48 : G := ⟨(nat_lit 141), Tr.fill undefV (nat_lit 141) (nat_lit 141), (rOne v8), (kSeq (kPu (eMv (gC (.b false))) w8 kEnd)
 (kSeq (kPu (eMv v1) w13 (kPu (eBin fAdd .add (nat_lit 0) v13 (gC (n6 (nat_lit 1)))) w14 (kPu (eMv v14) w9 kEnd)))
 (kSeq (kSeq (kPu (eMv (gC (n6 (nat_lit 0)))) w10 kEnd)
 (kBlock (nat_lit 0) (kLoop (kSeq (kSeq (kPu (eMv v10) w15 (kPu (eBin fLss .lss (nat_lit 0) v15 (gC (n6 (nat_lit 5)))) w16 kEnd))
 (kCond v16 kEnd (kExit (nat_lit 0))))
 (kSeq (kBlock (nat_lit 1) (kSeq (kBlock (nat_lit 2) (kLoop (kSeq (kSeq (kPu (eMv v9) w19 (kPu (eMv v2) w20 (kPu (eBin fLss .lss (nat_lit 0) v19 v20) w21 (kPu (eMv v21) w22 (kGd v22 true (kPu (eMv v3) w23) w23 (kGd v22 true (kPu (eMv v0) w24) w24 (kGd v22 true (kPu (eMv v9) w25) w25 (kGd v22 true (kPu (eIdxA (nat_lit 2) v24 v25) w26) w26 (kGd v22 true (kRd (eLdA (nat_lit 2) v26) w27) w27 (kGd v22 true (kPu (eMv v0) w28) w28 (kGd v22 true (kPu (eMv v9) w29) w29 (kGd v22 true (kPu (eBin fSub .sub (nat_lit 0) v29 (gC (n6 (nat_lit 1)))) w30) w30 (kGd v22 true (kPu (eIdxA (nat_lit 2) v28 v30) w31) w31 (kGd v22 true (kRd (eLdA (nat_lit 2) v31) w32) w32 (kGd v22 true (kHv (eHG (.callv t23 [t27, t32])) w33) w33 (kGd v22 true (kPu (eBin fLss .lss (nat_lit 0) v33 (gC (n6 (nat_lit 0)))) w34) w34 (kGd v22 true (kPu (eGen (.un .not t34)) w35) w35 (kPu (eGen (.pick t22 t35 (.c (.b false)))) w36 kEnd))))))))))))))))))
 (kCond v36 kEnd (kExit (nat_lit 2))))
 (kBlock (nat_lit 3) (kPu (eMv v9) w37 (kPu (eBin fAdd .add (nat_lit 0) v37 (gC (n6 (nat_lit 1)))) w38 (kPu (eMv v38) w9 kEnd)))))))
 (kSeq (kSeq (kPu (eMv v9) w39 (kPu (eMv v2) w40 (kPu (eBin fEql .eql (nat_lit 0) v39 v40) w41 kEnd)))
 (kCond v41 (kSeq (kPu (eMv (gC (.b true))) w8 kEnd)
 kRt) kEnd))
 (kSeq (kSeq (kPu (eMv v2) w42 (kPu (eMv v1) w43 (kPu (eBin fSub .sub (nat_lit 0) v42 v43) w44 (kPu (eBin fLss .lss (nat_lit 0) v44 (gC (n6 (nat_lit 50)))) w45 kEnd))))
 (kCond v45 (kSeq (kPu (eMv (gC (.b false))) w8 kEnd)
 kRt) kEnd))
 (kSeq (kPu (eMv v0) w46 (kPu (eMv v9) w47 (kPu (eMv v0) w48 (kPu (eMv v9) w49 (kPu (eBin fSub .sub (nat_lit 0) v49 (gC (n6 (nat_lit 1)))) w50 (kPu (eMv v0) w51 (kPu (eMv v9) w52 (kPu (eBin fSub .sub (nat_lit 0) v52 (gC (n6 (nat_lit 1)))) w53 (kPu (eIdxA (nat_lit 2) v51 v53) w54 (kRd (eLdA (nat_lit 2) v54) w55 (kPu (eMv v0) w56 (kPu (eMv v9) w57 (kPu (eIdxA (nat_lit 2) v56 v57) w58 (kRd (eLdA (nat_lit 2) v58) w59 (kPu (eIdxA (nat_lit 2) v46 v47) w60 (kHv (eStN (nat_lit 2) v60 v55) s0 (kPu (eIdxA (nat_lit 2) v48 v50) w61 (kHv (eStN (nat_lit 2) v61 v59) s0 kEnd))))))))))))))))))
 (kSeq (kSeq (kPu (eMv v9) w62 (kPu (eMv v1) w63 (kPu (eBin fSub .sub (nat_lit 0) v62 v63) w64 (kPu (eBin fGeq .geq (nat_lit 0) v64 (gC (n6 (nat_lit 2)))) w65 kEnd))))
 (kCond v65 (kSeq (kPu (eMv v9) w66 (kPu (eBin fSub .sub (nat_lit 0) v66 (gC (n6 (nat_lit 1)))) w67 (kPu (eMv v67) w11 kEnd)))
 (kBlock (nat_lit 4) (kLoop (kSeq (kSeq (kPu (eMv v11) w68 (kPu (eBin fGeq .geq (nat_lit 0) v68 (gC (n6 (nat_lit 1)))) w69 kEnd))
 (kCond v69 kEnd (kExit (nat_lit 4))))
 (kSeq (kBlock (nat_lit 5) (kSeq (kSeq (kPu (eMv v3) w72 (kPu (eMv v0) w73 (kPu (eMv v11) w74 (kPu (eIdxA (nat_lit 2) v73 v74) w75 (kRd (eLdA (nat_lit 2) v75) w76 (kPu (eMv v0) w77 (kPu (eMv v11) w78 (kPu (eBin fSub .sub (nat_lit 0) v78 (gC (n6 (nat_lit 1)))) w79 (kPu (eIdxA (nat_lit 2) v77 v79) w80 (kRd (eLdA (nat_lit 2) v80) w81 (kHv (eHG (.callv t72 [t76, t81])) w82 (kPu (eBin fLss .lss (nat_lit 0) v82 (gC (n6 (nat_lit 0)))) w83 (kPu (eGen (.un .not t83)) w84 kEnd)))))))))))))
 (kCond v84 (kExit (nat_lit 4)) kEnd))
 (kPu (eMv v0) w85 (kPu (eMv v11) w86 (kPu (eMv v0) w87 (kPu (eMv v11) w88 (kPu (eBin fSub .sub (nat_lit 0) v88 (gC (n6 (nat_lit 1)))) w89 (kPu (eMv v0) w90 (kPu (eMv v11) w91 (kPu (eBin fSub .sub (nat_lit 0) v91 (gC (n6 (nat_lit 1)))) w92 (kPu (eIdxA (nat_lit 2) v90 v92) w93 (kRd (eLdA (nat_lit 2) v93) w94 (kPu (eMv v0) w95 (kPu (eMv v11) w96 (kPu (eIdxA (nat_lit 2) v95 v96) w97 (kRd (eLdA (nat_lit 2) v97) w98 (kPu (eIdxA (nat_lit 2) v85 v86) w99 (kHv (eStN (nat_lit 2) v99 v94) s0 (kPu (eIdxA (nat_lit 2) v87 v89) w100 (kHv (eStN (nat_lit 2) v100 v98) s0 kEnd))))))))))))))))))))
 (kPu (eMv v11) w70 (kPu (eBin fSub .sub (nat_lit 0) v70 (gC (n6 (nat_lit 1)))) w71 (kPu (eMv v71) w11 kEnd)))))))) kEnd))
 (kSeq (kPu (eMv v2) w101 (kPu (eMv v9) w102 (kPu (eBin fSub .sub (nat_lit 0) v101 v102) w103 (kPu (eBin fGeq .geq (nat_lit 0) v103 (gC (n6 (nat_lit 2)))) w104 kEnd))))
 (kCond v104 (kSeq (kPu (eMv v9) w105 (kPu (eBin fAdd .add (nat_lit 0) v105 (gC (n6 (nat_lit 1)))) w106 (kPu (eMv v106) w12 kEnd)))
 (kBlock (nat_lit 6) (kLoop (kSeq (kSeq (kPu (eMv v12) w107 (kPu (eMv v2) w108 (kPu (eBin fLss .lss (nat_lit 0) v107 v108) w109 kEnd)))
 (kCond v109 kEnd (kExit (nat_lit 6))))
 (kSeq (kBlock (nat_lit 7) (kSeq (kSeq (kPu (eMv v3) w112 (kPu (eMv v0) w113 (kPu (eMv v12) w114 (kPu (eIdxA (nat_lit 2) v113 v114) w115 (kRd (eLdA (nat_lit 2) v115) w116 (kPu (eMv v0) w117 (kPu (eMv v12) w118 (kPu (eBin fSub .sub (nat_lit 0) v118 (gC (n6 (nat_lit 1)))) w119 (kPu (eIdxA (nat_lit 2) v117 v119) w120 (kRd (eLdA (nat_lit 2) v120) w121 (kHv (eHG (.callv t112 [t116, t121])) w122 (kPu (eBin fLss .lss (nat_lit 0) v122 (gC (n6 (nat_lit 0)))) w123 (kPu (eGen (.un .not t123)) w124 kEnd)))))))))))))
 (kCond v124 (kExit (nat_lit 6)) kEnd))
 (kPu (eMv v0) w125 (kPu (eMv v12) w126 (kPu (eMv v0) w127 (kPu (eMv v12) w128 (kPu (eBin fSub .sub (nat_lit 0) v128 (gC (n6 (nat_lit 1)))) w129 (kPu (eMv v0) w130 (kPu (eMv v12) w131 (kPu (eBin fSub .sub (nat_lit 0) v131 (gC (n6 (nat_lit 1)))) w132 (kPu (eIdxA (nat_lit 2) v130 v132) w133 (kRd (eLdA (nat_lit 2) v133) w134 (kPu (eMv v0) w135 (kPu (eMv v12) w136 (kPu (eIdxA (nat_lit 2) v135 v136) w137 (kRd (eLdA (nat_lit 2) v137) w138 (kPu (eIdxA (nat_lit 2) v125 v126) w139 (kHv (eStN (nat_lit 2) v139 v134) s0 (kPu (eIdxA (nat_lit 2) v127 v129) w140 (kHv (eStN (nat_lit 2) v140 v138) s0 kEnd))))))))))))))))))))
 (kPu (eMv v12) w110 (kPu (eBin fAdd .add (nat_lit 0) v110 (gC (n6 (nat_lit 1)))) w111 (kPu (eMv v111) w12 kEnd)))))))) kEnd))))))))
 (kPu (eMv v10) w17 (kPu (eBin fAdd .add (nat_lit 0) v17 (gC (n6 (nat_lit 1)))) w18 (kPu (eMv v18) w10 kEnd))))))))
 (kSeq (kPu (eMv (gC (.b false))) w8 kEnd)
 kRt)))), none⟩
noncomputable def G49 : G := ⟨(nat_lit 90), Tr.fill undefV (nat_lit 90) (nat_lit 90), (rOne v10), (kSeq (kPu (eMv (gC (n6 (nat_lit 0)))) w10 kEnd)
 (kSeq (kPu (eMv v0) w13 (kPu (eMv v1) w14 (kPu (eMv v0) w15 (kPu (eMv v3) w16 (kPu (eMv v0) w17 (kPu (eMv v3) w18 (kPu (eIdxA (nat_lit 2) v17 v18) w19 (kRd (eLdA (nat_lit 2) v19) w20 (kPu (eMv v0) w21 (kPu (eMv v1) w22 (kPu (eIdxA (nat_lit 2) v21 v22) w23 (kRd (eLdA (nat_lit 2) v23) w24 (kPu (eIdxA (nat_lit 2) v13 v14) w25 (kHv (eStN (nat_lit 2) v25 v20) s0 (kPu (eIdxA (nat_lit 2) v15 v16) w26 (kHv (eStN (nat_lit 2) v26 v24) s0 kEnd))))))))))))))))
 (kSeq (kPu (eMv v1) w27 (kPu (eBin fAdd .add (nat_lit 0) v27 (gC (n6 (nat_lit 1)))) w28 (kPu (eMv v2) w29 (kPu (eBin fSub .sub (nat_lit 0) v29 (gC (n6 (nat_lit 1)))) w30 (kPu (eMv v28) w11 (kPu (eMv v30) w12 kEnd))))))
 (kSeq (kBlock (nat_lit 0) (kLoop (kBlock (nat_lit 1) (kSeq (kBlock (nat_lit 2) (kLoop (kSeq (kSeq (kPu (eMv v11) w31 (kPu (eMv v12) w32 (kPu (eBin fLeq .leq (nat_lit 0) v31 v32) w33 (kPu (eMv v33) w34 (kGd v34 true (kPu (eMv v4) w35) w35 (kGd v34 true (kPu (eMv v0) w36) w36 (kGd v34 true (kPu (eMv v1) w37) w37 (kGd v34 true (kPu (eIdxA (nat_lit 2) v36 v37) w38) w38 (kGd v34 true (kRd (eLdA (nat_lit 2) v38) w39) w39 (kGd v34 true (kPu (eMv v0) w40) w40 (kGd v34 true (kPu (eMv v11) w41) w41 (kGd v34 true (kPu (eIdxA (nat_lit 2) v40 v41) w42) w42 (kGd v34 true (kRd (eLdA (nat_lit 2) v42) w43) w43 (kGd v34 true (kHv (eHG (.callv t35 [t39, t43])) w44) w44 (kGd v34 true (kPu (eBin fLss .lss (nat_lit 0) v44 (gC (n6 (nat_lit 0)))) w45) w45 (kGd v34 true (kPu (eGen (.un .not t45)) w46) w46 (kPu (eGen (.pick t34 t46 (.c (.b false)))) w47 kEnd)))))))))))))))))
 (kCond v47 kEnd (kExit (nat_lit 2))))
 (kBlock (nat_lit 3) (kPu (eMv v11) w48 (kPu (eBin fAdd .add (nat_lit 0) v48 (gC (n6 (nat_lit 1)))) w49 (kPu (eMv v49) w11 kEnd)))))))
 (kSeq (kBlock (nat_lit 4) (kLoop (kSeq (kSeq (kPu (eMv v11) w50 (kPu (eMv v12) w51 (kPu (eBin fLeq .leq (nat_lit 0) v50 v51) w52 (kPu (eMv v52) w53 (kGd v53 true (kPu (eMv v4) w54) w54 (kGd v53 true (kPu (eMv v0) w55) w55 (kGd v53 true (kPu (eMv v1) w56) w56 (kGd v53 true (kPu (eIdxA (nat_lit 2) v55 v56) w57) w57 (kGd v53 true (kRd (eLdA (nat_lit 2) v57) w58) w58 (kGd v53 true (kPu (eMv v0) w59) w59 (kGd v53 true (kPu (eMv v12) w60) w60 (kGd v53 true (kPu (eIdxA (nat_lit 2) v59 v60) w61) w61 (kGd v53 true (kRd (eLdA (nat_lit 2) v61) w62) w62 (kGd v53 true (kHv (eHG (.callv t54 [t58, t62])) w63) w63 (kGd v53 true (kPu (eBin fLss .lss (nat_lit 0) v63 (gC (n6 (nat_lit 0)))) w64) w64 (kPu (eGen (.pick t53 t64 (.c (.b false)))) w65 kEnd))))))))))))))))
 (kCond v65 kEnd (kExit (nat_lit 4))))
 (kBlock (nat_lit 5) (kPu (eMv v12) w66 (kPu (eBin fSub .sub (nat_lit 0) v66 (gC (n6 (nat_lit 1)))) w67 (kPu (eMv v67) w12 kEnd)))))))
 (kSeq (kSeq (kPu (eMv v11) w68 (kPu (eMv v12) w69 (kPu (eBin fGtr .gtr (nat_lit 0) v68 v69) w70 kEnd)))
 (kCond v70 (kExit (nat_lit 0)) kEnd))
 (kSeq (kPu (eMv v0) w71 (kPu (eMv v11) w72 (kPu (eMv v0) w73 (kPu (eMv v12) w74 (kPu (eMv v0) w75 (kPu (eMv v12) w76 (kPu (eIdxA (nat_lit 2) v75 v76) w77 (kRd (eLdA (nat_lit 2) v77) w78 (kPu (eMv v0) w79 (kPu (eMv v11) w80 (kPu (eIdxA (nat_lit 2) v79 v80) w81 (kRd (eLdA (nat_lit 2) v81) w82 (kPu (eIdxA (nat_lit 2) v71 v72) w83 (kHv (eStN (nat_lit 2) v83 v78) s0 (kPu (eIdxA (nat_lit 2) v73 v74) w84 (kHv (eStN (nat_lit 2) v84 v82) s0 kEnd))))))))))))))))
 (kSeq (kPu (eMv v11) w85 (kPu (eBin fAdd .add (nat_lit 0) v85 (gC (n6 (nat_lit 1)))) w86 (kPu (eMv v86) w11 kEnd)))
 (kPu (eMv v12) w87 (kPu (eBin fSub .sub (nat_lit 0) v87 (gC (n6 (nat_lit 1)))) w88 (kPu (eMv v88) w12 kEnd)))))))))))
 (kSeq (kPu (eMv v11) w89 (kPu (eMv v89) w10 kEnd))
 kRt))))), none⟩
noncomputable def G50 : G := ⟨(nat_lit 178), Tr.fill undefV (nat_lit 178) (nat_lit 178), (rGen [(.t q10), (.t q11)]), (kSeq (kPu (eMv (gC (n6 (nat_lit 0)))) w10 (kPu (eMv (gC (.b false))) w11 kEnd))
 (kSeq (kPu (eMv v0) w14 (kPu (eMv v1) w15 (kPu (eMv v0) w16 (kPu (eMv v3) w17 (kPu (eMv v0) w18 (kPu (eMv v3) w19 (kPu (eIdxA (nat_lit 2) v18 v19) w20 (kRd (eLdA (nat_lit 2) v20) w21 (kPu (eMv v0) w22 (kPu (eMv v1) w23 (kPu (eIdxA (nat_lit 2) v22 v23) w24 (kRd (eLdA (nat_lit 2) v24) w25 (kPu (eIdxA (nat_lit 2) v14 v15) w26 (kHv (eStN (nat_lit 2) v26 v21) s0 (kPu (eIdxA (nat_lit 2) v16 v17) w27 (kHv (eStN (nat_lit 2) v27 v25) s0 kEnd))))))))))))))))
 (kSeq (kPu (eMv v1) w28 (kPu (eBin fAdd .add (nat_lit 0) v28 (gC (n6 (nat_lit 1)))) w29 (kPu (eMv v2) w30 (kPu (eBin fSub .sub (nat_lit 0) v30 (gC (n6 (nat_lit 1)))) w31 (kPu (eMv v29) w12 (kPu (eMv v31) w13 kEnd))))))
 (kSeq (kBlock (nat_lit 0) (kLoop (kSeq (kSeq (kPu (eMv v12) w32 (kPu (eMv v13) w33 (kPu (eBin fLeq .leq (nat_lit 0) v32 v33) w34 (kPu (eMv v34) w35 (kGd v35 true (kPu (eMv v4) w36) w36 (kGd v35 true (kPu (eMv v0) w37) w37 (kGd v35 true (kPu (eMv v12) w38) w38 (kGd v35 true (kPu (eIdxA (nat_lit 2) v37 v38) w39) w39 (kGd v35 true (kRd (eLdA (nat_lit 2) v39) w40) w40 (kGd v35 true (kPu (eMv v0) w41) w41 (kGd v35 true (kPu (eMv v1) w42) w42 (kGd v35 true (kPu (eIdxA (nat_lit 2) v41 v42) w43) w43 (kGd v35 true (kRd (eLdA (nat_lit 2) v43) w44) w44 (kGd v35 true (kHv (eHG (.callv t36 [t40, t44])) w45) w45 (kGd v35 true (kPu (eBin fLss .lss (nat_lit 0) v45 (gC (n6 (nat_lit 0)))) w46) w46 (kPu (eGen (.pick t35 t46 (.c (.b false)))) w47 kEnd))))))))))))))))
 (kCond v47 kEnd (kExit (nat_lit 0))))
 (kBlock (nat_lit 1) (kPu (eMv v12) w48 (kPu (eBin fAdd .add (nat_lit 0) v48 (gC (n6 (nat_lit 1)))) w49 (kPu (eMv v49) w12 kEnd)))))))
 (kSeq (kBlock (nat_lit 2) (kLoop (kSeq (kSeq (kPu (eMv v12) w50 (kPu (eMv v13) w51 (kPu (eBin fLeq .leq (nat_lit 0) v50 v51) w52 (kPu (eMv v52) w53 (kGd v53 true (kPu (eMv v4) w54) w54 (kGd v53 true (kPu (eMv v0) w55) w55 (kGd v53 true (kPu (eMv v13) w56) w56 (kGd v53 true (kPu (eIdxA (nat_lit 2) v55 v56) w57) w57 (kGd v53 true (kRd (eLdA (nat_lit 2) v57) w58) w58 (kGd v53 true (kPu (eMv v0) w59) w59 (kGd v53 true (kPu (eMv v1) w60) w60 (kGd v53 true (kPu (eIdxA (nat_lit 2) v59 v60) w61) w61 (kGd v53 true (kRd (eLdA (nat_lit 2) v61) w62) w62 (kGd v53 true (kHv (eHG (.callv t54 [t58, t62])) w63) w63 (kGd v53 true (kPu (eBin fLss .lss (nat_lit 0) v63 (gC (n6 (nat_lit 0)))) w64) w64 (kGd v53 true (kPu (eGen (.un .not t64)) w65) w65 (kPu (eGen (.pick t53 t65 (.c (.b false)))) w66 kEnd)))))))))))))))))
 (kCond v66 kEnd (kExit (nat_lit 2))))
 (kBlock (nat_lit 3) (kPu (eMv v13) w67 (kPu (eBin fSub .sub (nat_lit 0) v67 (gC (n6 (nat_lit 1)))) w68 (kPu (eMv v68) w13 kEnd)))))))
 (kSeq (kSeq (kPu (eMv v12) w69 (kPu (eMv v13) w70 (kPu (eBin fGtr .gtr (nat_lit 0) v69 v70) w71 kEnd)))
 (kCond v71 (kSeq (kPu (eMv v0) w72 (kPu (eMv v13) w73 (kPu (eMv v0) w74 (kPu (eMv v1) w75 (kPu (eMv v0) w76 (kPu (eMv v1) w77 (kPu (eIdxA (nat_lit 2) v76 v77) w78 (kRd (eLdA (nat_lit 2) v78) w79 (kPu (eMv v0) w80 (kPu (eMv v13) w81 (kPu (eIdxA (nat_lit 2) v80 v81) w82 (kRd (eLdA (nat_lit 2) v82) w83 (kPu (eIdxA (nat_lit 2) v72 v73) w84 (kHv (eStN (nat_lit 2) v84 v79) s0 (kPu (eIdxA (nat_lit 2) v74 v75) w85 (kHv (eStN (nat_lit 2) v85 v83) s0 kEnd))))))))))))))))
 (kSeq (kPu (eMv v13) w86 (kPu (eMv v86) w10 (kPu (eMv (gC (.b true))) w11 kEnd)))
 kRt)) kEnd))
 (kSeq (kPu (eMv v0) w87 (kPu (eMv v12) w88 (kPu (eMv v0) w89 (kPu (eMv v13) w90 (kPu (eMv v0) w91 (kPu (eMv v13) w92 (kPu (eIdxA (nat_lit 2) v91 v92) w93 (kRd (eLdA (nat_lit 2) v93) w94 (kPu (eMv v0) w95 (kPu (eMv v12) w96 (kPu (eIdxA (nat_lit 2) v95 v96) w97 (kRd (eLdA (nat_lit 2) v97) w98 (kPu (eIdxA (nat_lit 2) v87 v88) w99 (kHv (eStN (nat_lit 2) v99 v94) s0 (kPu (eIdxA (nat_lit 2) v89 v90) w100 (kHv (eStN (nat_lit 2) v100 v98) s0 kEnd))))))))))))))))
 (kSeq (kPu (eMv v12) w101 (kPu (eBin fAdd .add (nat_lit 0) v101 (gC (n6 (nat_lit 1)))) w102 (kPu (eMv v102) w12 kEnd)))
 (kSeq (kPu (eMv v13) w103 (kPu (eBin fSub .sub (nat_lit 0) v103 (gC (n6 (nat_lit 1)))) w104 (kPu (eMv v104) w13 kEnd)))
 (kSeq (kBlock (nat_lit 4) (kLoop (kBlock (nat_lit 5) (kSeq (kBlock (nat_lit 6) (kLoop (kSeq (kSeq (kPu (eMv v12) w105 (kPu (eMv v13) w106 (kPu (eBin fLeq .leq (nat_lit 0) v105 v106) w107 (kPu (eMv v107) w108 (kGd v108 true (kPu (eMv v4) w109) w109 (kGd v108 true (kPu (eMv v0) w110) w110 (kGd v108 true (kPu (eMv v12) w111) w111 (kGd v108 true (kPu (eIdxA (nat_lit 2) v110 v111) w112) w112 (kGd v108 true (kRd (eLdA (nat_lit 2) v112) w113) w113 (kGd v108 true (kPu (eMv v0) w114) w114 (kGd v108 true (kPu (eMv v1) w115) w115 (kGd v108 true (kPu (eIdxA (nat_lit 2) v114 v115) w116) w116 (kGd v108 true (kRd (eLdA (nat_lit 2) v116) w117) w117 (kGd v108 true (kHv (eHG (.callv t109 [t113, t117])) w118) w118 (kGd v108 true (kPu (eBin fLss .lss (nat_lit 0) v118 (gC (n6 (nat_lit 0)))) w119) w119 (kPu (eGen (.pick t108 t119 (.c (.b false)))) w120 kEnd))))))))))))))))
 (kCond v120 kEnd (kExit (nat_lit 6))))
 (kBlock (nat_lit 7) (kPu (eMv v12) w121 (kPu (eBin fAdd .add (nat_lit 0) v121 (gC (n6 (nat_lit 1)))) w122 (kPu (eMv v122) w12 kEnd)))))))
 (kSeq (kBlock (nat_lit 8) (kLoop (kSeq (kSeq (kPu (eMv v12) w123 (kPu (eMv v13) w124 (kPu (eBin fLeq .leq (nat_lit 0) v123 v124) w125 (kPu (eMv v125) w126 (kGd v126 true (kPu (eMv v4) w127) w127 (kGd v126 true (kPu (eMv v0) w128) w128 (kGd v126 true (kPu (eMv v13) w129) w129 (kGd v126 true (kPu (eIdxA (nat_lit 2) v128 v129) w130) w130 (kGd v126 true (kRd (eLdA (nat_lit 2) v130) w131) w131 (kGd v126 true (kPu (eMv v0) w132) w132 (kGd v126 true (kPu (eMv v1) w133) w133 (kGd v126 true (kPu (eIdxA (nat_lit 2) v132 v133) w134) w134 (kGd v126 true (kRd (eLdA (nat_lit 2) v134) w135) w135 (kGd v126 true (kHv (eHG (.callv t127 [t131, t135])) w136) w136 (kGd v126 true (kPu (eBin fLss .lss (nat_lit 0) v136 (gC (n6 (nat_lit 0)))) w137) w137 (kGd v126 true (kPu (eGen (.un .not t137)) w138) w138 (kPu (eGen (.pick t126 t138 (.c (.b false)))) w139 kEnd)))))))))))))))))
 (kCond v139 kEnd (kExit (nat_lit 8))))
 (kBlock (nat_lit 9) (kPu (eMv v13) w140 (kPu (eBin fSub .sub (nat_lit 0) v140 (gC (n6 (nat_lit 1)))) w141 (kPu (eMv v141) w13 kEnd)))))))
 (kSeq (kSeq (kPu (eMv v12) w142 (kPu (eMv v13) w143 (kPu (eBin fGtr .gtr (nat_lit 0) v142 v143) w144 kEnd)))
 (kCond v144 (kExit (nat_lit 4)) kEnd))
 (kSeq (kPu (eMv v0) w145 (kPu (eMv v12) w146 (kPu (eMv v0) w147 (kPu (eMv v13) w148 (kPu (eMv v0) w149 (kPu (eMv v13) w150 (kPu (eIdxA (nat_lit 2) v149 v150) w151 (kRd (eLdA (nat_lit 2) v151) w152 (kPu (eMv v0) w153 (kPu (eMv v12) w154 (kPu (eIdxA (nat_lit 2) v153 v154) w155 (kRd (eLdA (nat_lit 2) v155) w156 (kPu (eIdxA (nat_lit 2) v145 v146) w157 (kHv (eStN (nat_lit 2) v157 v152) s0 (kPu (eIdxA (nat_lit 2) v147 v148) w158 (kHv (eStN (nat_lit 2) v158 v156) s0 kEnd))))))))))))))))
 (kSeq (kPu (eMv v12) w159 (kPu (eBin fAdd .add (nat_lit 0) v159 (gC (n6 (nat_lit 1)))) w160 (kPu (eMv v160) w12 kEnd)))
 (kPu (eMv v13) w161 (kPu (eBin fSub .sub (nat_lit 0) v161 (gC (n6 (nat_lit 1)))) w162 (kPu (eMv v162) w13 kEnd)))))))))))
 (kSeq (kPu (eMv v0) w163 (kPu (eMv v13) w164 (kPu (eMv v0) w165 (kPu (eMv v1) w166 (kPu (eMv v0) w167 (kPu (eMv v1) w168 (kPu (eIdxA (nat_lit 2) v167 v168) w169 (kRd (eLdA (nat_lit 2) v169) w170 (kPu (eMv v0) w171 (kPu (eMv v13) w172 (kPu (eIdxA (nat_lit 2) v171 v172) w173 (kRd (eLdA (nat_lit 2) v173) w174 (kPu (eIdxA (nat_lit 2) v163 v164) w175 (kHv (eStN (nat_lit 2) v175 v170) s0 (kPu (eIdxA (nat_lit 2) v165 v166) w176 (kHv (eStN (nat_lit 2) v176 v174) s0 kEnd))))))))))))))))
 (kSeq (kPu (eMv v13) w177 (kPu (eMv v177) w10 (kPu (eMv (gC (.b false))) w11 kEnd)))
 kRt)))))))))))), none⟩
noncomputable def G51 : G := ⟨(nat_lit 76), Tr.fill undefV (nat_lit 76) (nat_lit 76), (rGen []), (kSeq (kPu (eMv v1) w10 (kPu (eMv v10) w8 kEnd))
 (kBlock (nat_lit 0) (kLoop (kBlock (nat_lit 1) (kSeq (kPu (eMv v8) w11 (kPu (eBin fMul .mul (nat_lit 0) (gC (n6 (nat_lit 2))) v11) w12 (kPu (eBin fAdd .add (nat_lit 0) v12 (gC (n6 (nat_lit 1)))) w13 (kPu (eMv v13) w9 kEnd))))
 (kSeq (kSeq (kPu (eMv v9) w14 (kPu (eMv v2) w15 (kPu (eBin fGeq .geq (nat_lit 0) v14 v15) w16 kEnd)))
 (kCond v16 (kExit (nat_lit 0)) kEnd))
 (kSeq (kSeq (kPu (eMv v9) w17 (kPu (eBin fAdd .add (nat_lit 0) v17 (gC (n6 (nat_lit 1)))) w18 (kPu (eMv v2) w19 (kPu (eBin fLss .lss (nat_lit 0) v18 v19) w20 (kPu (eMv v20) w21 (kGd v21 true (kPu (eMv v0) w22) w22 (kGd v21 true (kPu (eMv v3) w23) w23 (kGd v21 true (kPu (eMv v9) w24) w24 (kGd v21 true (kPu (eBin fAdd .add (nat_lit 0) v23 v24) w25) w25 (kGd v21 true (kPu (eIdxA (nat_lit 1) v22 v25) w26) w26 (kGd v21 true (kRd (eLd1 v26) w27) w27 (kGd v21 true (kPu (eMv v0) w28) w28 (kGd v21 true (kPu (eMv v3) w29) w29 (kGd v21 true (kPu (eMv v9) w30) w30 (kGd v21 true (kPu (eBin fAdd .add (nat_lit 0) v29 v30) w31) w31 (kGd v21 true (kPu (eBin fAdd .add (nat_lit 0) v31 (gC (n6 (nat_lit 1)))) w32) w32 (kGd v21 true (kPu (eIdxA (nat_lit 1) v28 v32) w33) w33 (kGd v21 true (kRd (eLd1 v33) w34) w34 (kGd v21 true (kCall q38 [v27, v34] w35) w35 (kPu (eGen (.pick t21 t35 (.c (.b false)))) w36 kEnd))))))))))))))))))))
 (kCond v36 (kPu (eMv v9) w37 (kPu (eBin fAdd .add (nat_lit 0) v37 (gC (n6 (nat_lit 1)))) w38 (kPu (eMv v38) w9 kEnd))) kEnd))
 (kSeq (kSeq (kPu (eMv v0) w39 (kPu (eMv v3) w40 (kPu (eMv v8) w41 (kPu (eBin fAdd .add (nat_lit 0) v40 v41) w42 (kPu (eIdxA (nat_lit 1) v39 v42) w43 (kRd (eLd1 v43) w44 (kPu (eMv v0) w45 (kPu (eMv v3) w46 (kPu (eMv v9) w47 (kPu (eBin fAdd .add (nat_lit 0) v46 v47) w48 (kPu (eIdxA (nat_lit 1) v45 v48) w49 (kRd (eLd1 v49) w50 (kCall q38 [v44, v50] w51 (kPu (eGen (.un .not t51)) w52 kEnd))))))))))))))
 (kCond v52 kRt kEnd))
 (kSeq (kPu (eMv v0) w53 (kPu (eMv v3) w54 (kPu (eMv v8) w55 (kPu (eBin fAdd .add (nat_lit 0) v54 v55) w56 (kPu (eMv v0) w57 (kPu (eMv v3) w58 (kPu (eMv v9) w59 (kPu (eBin fAdd .add (nat_lit 0) v58 v59) w60 (kPu (eMv v0) w61 (kPu (eMv v3) w62 (kPu (eMv v9) w63 (kPu (eBin fAdd .add (nat_lit 0) v62 v63) w64 (kPu (eIdxA (nat_lit 1) v61 v64) w65 (kRd (eLd1 v65) w66 (kPu (eMv v0) w67 (kPu (eMv v3) w68 (kPu (eMv v8) w69 (kPu (eBin fAdd .add (nat_lit 0) v68 v69) w70 (kPu (eIdxA (nat_lit 1) v67 v70) w71 (kRd (eLd1 v71) w72 (kPu (eIdxA (nat_lit 1) v53 v56) w73 (kHv (eSt1 v73 v66) s0 (kPu (eIdxA (nat_lit 1) v57 v60) w74 (kHv (eSt1 v74 v72) s0 kEnd))))))))))))))))))))))))
 (kPu (eMv v9) w75 (kPu (eMv v75) w8 kEnd))))))))))), none⟩
noncomputable def G52 : G := ⟨(nat_lit 7), Tr.fill undefV (nat_lit 7) (nat_lit 7), (rOne v2), (kSeq (kPu (eMv (gC (.i .u64 (.ofNat (nat_lit 0))))) w2 kEnd)
 (kSeq (kPu (eMv v0) w3 (kPu (eConv .u64 v3) w4 (kCall q30 [v4] w5 (kPu (eBin fShl .shl (nat_lit 0) (gC (.i .u64 (.ofNat (nat_lit 1)))) v5) w6 (kPu (eMv v6) w2 kEnd)))))
 kRt)), none⟩
noncomputable def G53 : G := ⟨(nat_lit 33), Tr.fill undefV (nat_lit 33) (nat_lit 33), (rOne v2), (kSeq (kPu (eMv (gC (.i .u64 (.ofNat (nat_lit 0))))) w2 kEnd)
 (kSeq (kPu (eMv v0) w3 (kPu (eNil v3) w4 (kRd (eLd1 v4) w5 (kPu (eMv v0) w6 (kPu (eNil v6) w7 (kRd (eLd1 v7) w8 (kPu (eBin fShl .shl (nat_lit 0) v8 (gC (.i .u64 (.ofNat (nat_lit 13))))) w9 (kPu (eBin fXor .xor (nat_lit 0) v5 v9) w10 (kPu (eNil v3) w11 (kHv (eSt1 v11 v10) s0 kEnd))))))))))
 (kSeq (kPu (eMv v0) w12 (kPu (eNil v12) w13 (kRd (eLd1 v13) w14 (kPu (eMv v0) w15 (kPu (eNil v15) w16 (kRd (eLd1 v16) w17 (kPu (eBin fShr .shr (nat_lit 0) v17 (gC (.i .u64 (.ofNat (nat_lit 7))))) w18 (kPu (eBin fXor .xor (nat_lit 0) v14 v18) w19 (kPu (eNil v12) w20 (kHv (eSt1 v20 v19) s0 kEnd))))))))))
 (kSeq (kPu (eMv v0) w21 (kPu (eNil v21) w22 (kRd (eLd1 v22) w23 (kPu (eMv v0) w24 (kPu (eNil v24) w25 (kRd (eLd1 v25) w26 (kPu (eBin fShl .shl (nat_lit 0) v26 (gC (.i .u64 (.ofNat (nat_lit 17))))) w27 (kPu (eBin fXor .xor (nat_lit 0) v23 v27) w28 (kPu (eNil v21) w29 (kHv (eSt1 v29 v28) s0 kEnd))))))))))
 (kSeq (kPu (eMv v0) w30 (kPu (eNil v30) w31 (kRd (eLd1 v31) w32 (kPu (eMv v32) w2 kEnd))))
 kRt))))), none⟩
noncomputable def G54 : G := ⟨(nat_lit 15), Tr.fill undefV (nat_lit 15) (nat_lit 15), (rOne v6), (kSeq (kPu (eMv (gC (n6 (nat_lit 0)))) w6 kEnd)
 (kSeq (kPu (eMv v0) w7 (kPu (eMv v1) w8 (kPu (eBin fSub .sub (nat_lit 0) v8 (gC (n6 (nat_lit 1)))) w9 (kPu (eMv v1) w10 (kPu (eMv v1) w11 (kPu (eBin fAdd .add (nat_lit 0) v11 (gC (n6 (nat_lit 1)))) w12 (kPu (eMv v2) w13 (kCall q55 [v7, v9, v10, v12, v13] w14 (kPu (eMv v14) w6 kEnd)))))))))
 kRt)), none⟩
noncomputable def G55 : G := ⟨(nat_lit 36), Tr.fill undefV (nat_lit 36) (nat_lit 36), (rOne v10), (kSeq (kPu (eMv (gC (n6 (nat_lit 0)))) w10 kEnd)
 (kSeq (kPu (eMv v0) w12 (kPu (eMv v1) w13 (kPu (eMv v2) w14 (kPu (eMv v4) w15 (kCall q60 [v12, v13, v14, v15] w16 (kPu (eMv v16) w11 (kPu (eExt (nat_lit 0) v11) w17 (kPu (eExt (nat_lit 1) v11) w18 (kPu (eMv v17) w1 (kPu (eMv v18) w2 kEnd))))))))))
 (kSeq (kPu (eMv v0) w20 (kPu (eMv v2) w21 (kPu (eMv v3) w22 (kPu (eMv v4) w23 (kCall q60 [v20, v21, v22, v23] w24 (kPu (eMv v24) w19 (kPu (eExt (nat_lit 0) v19) w25 (kPu (eExt (nat_lit 1) v19) w26 (kPu (eMv v25) w2 (kPu (eMv v26) w3 kEnd))))))))))
 (kSeq (kPu (eMv v0) w28 (kPu (eMv v1) w29 (kPu (eMv v2) w30 (kPu (eMv v4) w31 (kCall q60 [v28, v29, v30, v31] w32 (kPu (eMv v32) w27 (kPu (eExt (nat_lit 0) v27) w33 (kPu (eExt (nat_lit 1) v27) w34 (kPu (eMv v33) w1 (kPu (eMv v34) w2 kEnd))))))))))
 (kSeq (kPu (eMv v2) w35 (kPu (eMv v35) w10 kEnd))
 kRt))))), none⟩
noncomputable def G56 : G := ⟨(nat_lit 6), Tr.fill undefV (nat_lit 6) (nat_lit 6), (rOne v2), (kSeq (kPu (eMv (gC (.b false))) w2 kEnd)
 (kSeq (kPu (eMv v0) w3 (kPu (eMv v0) w4 (kPu (eBin fNeq .neq (nat_lit 0) v3 v4) w5 (kPu (eMv v5) w2 kEnd))))
 kRt)), none⟩
noncomputable def G57 : G := ⟨(nat_lit 82), Tr.fill undefV (nat_lit 82) (nat_lit 82), (rGen []), (kSeq (kPu (eMv v1) w12 (kPu (eMv v12) w10 kEnd))
 (kBlock (nat_lit 0) (kLoop (kBlock (nat_lit 1) (kSeq (kPu (eMv v10) w13 (kPu (eBin fMul .mul (nat_lit 0) (gC (n6 (nat_lit 2))) v13) w14 (kPu (eBin fAdd .add (nat_lit 0) v14 (gC (n6 (nat_lit 1)))) w15 (kPu (eMv v15) w11 kEnd))))
 (kSeq (kSeq (kPu (eMv v11) w16 (kPu (eMv v2) w17 (kPu (eBin fGeq .geq (nat_lit 0) v16 v17) w18 kEnd)))
 (kCond v18 (kExit (nat_lit 0)) kEnd))
 (kSeq (kSeq (kPu (eMv v11) w19 (kPu (eBin fAdd .add (nat_lit 0) v19 (gC (n6 (nat_lit 1)))) w20 (kPu (eMv v2) w21 (kPu (eBin fLss .lss (nat_lit 0) v20 v21) w22 (kPu (eMv v22) w23 (kGd v23 true (kPu (eMv v4) w24) w24 (kGd v23 true (kPu (eMv v0) w25) w25 (kGd v23 true (kPu (eMv v3) w26) w26 (kGd v23 true (kPu (eMv v11) w27) w27 (kGd v23 true (kPu (eBin fAdd .add (nat_lit 0) v26 v27) w28) w28 (kGd v23 true (kPu (eIdxA (nat_lit 2) v25 v28) w29) w29 (kGd v23 true (kRd (eLdA (nat_lit 2) v29) w30) w30 (kGd v23 true (kPu (eMv v0) w31) w31 (kGd v23 true (kPu (eMv v3) w32) w32 (kGd v23 true (kPu (eMv v11) w33) w33 (kGd v23 true (kPu (eBin fAdd .add (nat_lit 0) v32 v33) w34) w34 (kGd v23 true (kPu (eBin fAdd .add (nat_lit 0) v34 (gC (n6 (nat_lit 1)))) w35) w35 (kGd v23 true (kPu (eIdxA (nat_lit 2) v31 v35) w36) w36 (kGd v23 true (kRd (eLdA (nat_lit 2) v36) w37) w37 (kGd v23 true (kHv (eHG (.callv t24 [t30, t37])) w38) w38 (kGd v23 true (kPu (eBin fLss .lss (nat_lit 0) v38 (gC (n6 (nat_lit 0)))) w39) w39 (kPu (eGen (.pick t23 t39 (.c (.b false)))) w40 kEnd))))))))))))))))))))))
 (kCond v40 (kPu (eMv v11) w41 (kPu (eBin fAdd .add (nat_lit 0) v41 (gC (n6 (nat_lit 1)))) w42 (kPu (eMv v42) w11 kEnd))) kEnd))
 (kSeq (kSeq (kPu (eMv v4) w43 (kPu (eMv v0) w44 (kPu (eMv v3) w45 (kPu (eMv v10) w46 (kPu (eBin fAdd .add (nat_lit 0) v45 v46) w47 (kPu (eIdxA (nat_lit 2) v44 v47) w48 (kRd (eLdA (nat_lit 2) v48) w49 (kPu (eMv v0) w50 (kPu (eMv v3) w51 (kPu (eMv v11) w52 (kPu (eBin fAdd .add (nat_lit 0) v51 v52) w53 (kPu (eIdxA (nat_lit 2) v50 v53) w54 (kRd (eLdA (nat_lit 2) v54) w55 (kHv (eHG (.callv t43 [t49, t55])) w56 (kPu (eBin fLss .lss (nat_lit 0) v56 (gC (n6 (nat_lit 0)))) w57 (kPu (eGen (.un .not t57)) w58 kEnd))))))))))))))))
 (kCond v58 kRt kEnd))
 (kSeq (kPu (eMv v0) w59 (kPu (eMv v3) w60 (kPu (eMv v10) w61 (kPu (eBin fAdd .add (nat_lit 0) v60 v61) w62 (kPu (eMv v0) w63 (kPu (eMv v3) w64 (kPu (eMv v11) w65 (kPu (eBin fAdd .add (nat_lit 0) v64 v65) w66 (kPu (eMv v0) w67 (kPu (eMv v3) w68 (kPu (eMv v11) w69 (kPu (eBin fAdd .add (nat_lit 0) v68 v69) w70 (kPu (eIdxA (nat_lit 2) v67 v70) w71 (kRd (eLdA (nat_lit 2) v71) w72 (kPu (eMv v0) w73 (kPu (eMv v3) w74 (kPu (eMv v10) w75 (kPu (eBin fAdd .add (nat_lit 0) v74 v75) w76 (kPu (eIdxA (nat_lit 2) v73 v76) w77 (kRd (eLdA (nat_lit 2) v77) w78 (kPu (eIdxA (nat_lit 2) v59 v62) w79 (kHv (eStN (nat_lit 2) v79 v72) s0 (kPu (eIdxA (nat_lit 2) v63 v66) w80 (kHv (eStN (nat_lit 2) v80 v78) s0 kEnd))))))))))))))))))))))))
 (kPu (eMv v11) w81 (kPu (eMv v81) w10 kEnd))))))))))), none⟩
noncomputable def G58 : G := ⟨(nat_lit 18), Tr.fill undefV (nat_lit 18) (nat_lit 18), (rOne v8), (kSeq (kPu (eMv (gC (n6 (nat_lit 0)))) w8 kEnd)
 (kSeq (kPu (eMv v0) w9 (kPu (eMv v1) w10 (kPu (eBin fSub .sub (nat_lit 0) v10 (gC (n6 (nat_lit 1)))) w11 (kPu (eMv v1) w12 (kPu (eMv v1) w13 (kPu (eBin fAdd .add (nat_lit 0) v13 (gC (n6 (nat_lit 1)))) w14 (kPu (eMv v2) w15 (kPu (eMv v3) w16 (kCall q59 [v9, v11, v12, v14, v15, v16] w17 (kPu (eMv v17) w8 kEnd))))))))))
 kRt)), none⟩
noncomputable def G59 : G := ⟨(nat_lit 41), Tr.fill undefV (nat_lit 41) (nat_lit 41), (rOne v12), (kSeq (kPu (eMv (gC (n6 (nat_lit 0)))) w12 kEnd)
 (kSeq (kPu (eMv v0) w14 (kPu (eMv v1) w15 (kPu (eMv v2) w16 (kPu (eMv v4) w17 (kPu (eMv v5) w18 (kCall q61 [v14, v15, v16, v17, v18] w19 (kPu (eMv v19) w13 (kPu (eExt (nat_lit 0) v13) w20 (kPu (eExt (nat_lit 1) v13) w21 (kPu (eMv v20) w1 (kPu (eMv v21) w2 kEnd)))))))))))
 (kSeq (kPu (eMv v0) w23 (kPu (eMv v2) w24 (kPu (eMv v3) w25 (kPu (eMv v4) w26 (kPu (eMv v5) w27 (kCall q61 [v23, v24, v25, v26, v27] w28 (kPu (eMv v28) w22 (kPu (eExt (nat_lit 0) v22) w29 (kPu (eExt (nat_lit 1) v22) w30 (kPu (eMv v29) w2 (kPu (eMv v30) w3 kEnd)))))))))))
 (kSeq (kPu (eMv v0) w32 (kPu (eMv v1) w33 (kPu (eMv v2) w34 (kPu (eMv v4) w35 (kPu (eMv v5) w36 (kCall q61 [v32, v33, v34, v35, v36] w37 (kPu (eMv v37) w31 (kPu (eExt (nat_lit 0) v31) w38 (kPu (eExt (nat_lit 1) v31) w39 (kPu (eMv v38) w1 (kPu (eMv v39) w2 kEnd)))))))))))
 (kSeq (kPu (eMv v2) w40 (kPu (eMv v40) w12 kEnd))
 kRt))))), none⟩
noncomputable def G60 : G := ⟨(nat_lit 28), Tr.fill undefV (nat_lit 28) (nat_lit 28), (rGen [(.t q8), (.t q9)]), (kSeq (kPu (eMv (gC (n6 (nat_lit 0)))) w8 (kPu (eMv (gC (n6 (nat_lit 0)))) w9 kEnd))
 (kSeq (kSeq (kPu (eMv v0) w10 (kPu (eMv v2) w11 (kPu (eIdxA (nat_lit 1) v10 v11) w12 (kRd (eLd1 v12) w13 (kPu (eMv v0) w14 (kPu (eMv v1) w15 (kPu (eIdxA (nat_lit 1) v14 v15) w16 (kRd (eLd1 v16) w17 (kCall q38 [v13, v17] w18 kEnd)))))))))
 (kCond v18 (kSeq (kPu (eMv v3) w19 (kPu (eNil v19) w20 (kRd (eLd1 v20) w21 (kPu (eBin fAdd .add (nat_lit 0) v21 (gC (n6 (nat_lit 1)))) w22 (kPu (eNil v19) w23 (kHv (eSt1 v23 v22) s0 kEnd))))))
 (kSeq (kPu (eMv v2) w24 (kPu (eMv v1) w25 (kPu (eMv v24) w8 (kPu (eMv v25) w9 kEnd))))
 kRt)) kEnd))
 (kSeq (kPu (eMv v1) w26 (kPu (eMv v2) w27 (kPu (eMv v26) w8 (kPu (eMv v27) w9 kEnd))))
 kRt))), none⟩
noncomputable def G61 : G := ⟨(nat_lit 32), Tr.fill undefV (nat_lit 32) (nat_lit 32), (rGen [(.t q10), (.t q11)]), (kSeq (kPu (eMv (gC (n6 (nat_lit 0)))) w10 (kPu (eMv (gC (n6 (nat_lit 0)))) w11 kEnd))
 (kSeq (kSeq (kPu (eMv v4) w12 (kPu (eMv v0) w13 (kPu (eMv v2) w14 (kPu (eIdxA (nat_lit 2) v13 v14) w15 (kRd (eLdA (nat_lit 2) v15) w16 (kPu (eMv v0) w17 (kPu (eMv v1) w18 (kPu (eIdxA (nat_lit 2) v17 v18) w19 (kRd (eLdA (nat_lit 2) v19) w20 (kHv (eHG (.callv t12 [t16, t20])) w21 (kPu (eBin fLss .lss (nat_lit 0) v21 (gC (n6 (nat_lit 0)))) w22 kEnd)))))))))))
 (kCond v22 (kSeq (kPu (eMv v3) w23 (kPu (eNil v23) w24 (kRd (eLd1 v24) w25 (kPu (eBin fAdd .add (nat_lit 0) v25 (gC (n6 (nat_lit 1)))) w26 (kPu (eNil v23) w27 (kHv (eSt1 v27 v26) s0 kEnd))))))
 (kSeq (kPu (eMv v2) w28 (kPu (eMv v1) w29 (kPu (eMv v28) w10 (kPu (eMv v29) w11 kEnd))))
 kRt)) kEnd))
 (kSeq (kPu (eMv v1) w30 (kPu (eMv v2) w31 (kPu (eMv v30) w10 (kPu (eMv v31) w11 kEnd))))
 kRt))), none⟩
noncomputable def tab : Tr (Option G) := (.nd (.nd (.nd (.nd (.nd (.nd (.nd .nil none .nil) (some G31) .nil) (some G15) (.nd .nil (some G47) .nil)) (some G7) (.nd (.nd (.nd .nil none .nil) (some G39) .nil) (some G23) (.nd .nil (some G55) .nil))) none (.nd (.nd (.nd (.nd .nil none .nil) (some G35) .nil) (some G19) (.nd .nil (some G51) .nil)) (some G11) (.nd (.nd (.nd .nil none .nil) (some G43) .nil) (some G27) (.nd .nil (some G59) .nil)))) none (.nd (.nd (.nd (.nd (.nd .nil none .nil) (some G33) .nil) (some G17) (.nd .nil (some G49) .nil)) (some G9) (.nd (.nd (.nd .nil none .nil) (some G41) .nil) (some G25) (.nd .nil (some G57) .nil))) none (.nd (.nd (.nd (.nd .nil none .nil) (some G37) .nil) (some G21) (.nd .nil (some G53) .nil)) (some G13) (.nd (.nd (.nd .nil none .nil) (some G45) .nil) (some G29) (.nd .nil (some G61) .nil))))) none (.nd (.nd (.nd (.nd (.nd (.nd .nil none .nil) (some G32) .nil) (some G16) (.nd .nil (some G48) .nil)) (some G8) (.nd (.nd (.nd .nil none .nil) (some G40) .nil) (some G24) (.nd .nil (some G56) .nil))) (some G4) (.nd (.nd (.nd (.nd .nil none .nil) (some G36) .nil) (some G20) (.nd .nil (some G52) .nil)) (some G12) (.nd (.nd (.nd .nil none .nil) (some G44) .nil) (some G28) (.nd .nil (some G60) .nil)))) none (.nd (.nd (.nd (.nd (.nd .nil none .nil) (some G34) .nil) (some G18) (.nd .nil (some G50) .nil)) (some G10) (.nd (.nd (.nd .nil none .nil) (some G42) .nil) (some G26) (.nd .nil (some G58) .nil))) (some G6) (.nd (.nd (.nd (.nd .nil none .nil) (some G38) .nil) (some G22) (.nd .nil (some G54) .nil)) (some G14) (.nd (.nd .nil (some G46) .nil) (some G30) (.nd .nil none .nil))))))
theorem G4_eq : (cF Go.Proofs.Try.prog 0 (planOf Go.Proofs.Try.prog 0) Go.Proofs.Try.f4).map toG = some G4 := by kernel_rfl
theorem G6_eq : (cF Go.Proofs.Try.prog 0 (planOf Go.Proofs.Try.prog 0) Go.Proofs.Try.f6).map toG = some G6 := by kernel_rfl
theorem G7_eq : (cF Go.Proofs.Try.prog 0 (planOf Go.Proofs.Try.prog 0) Go.Proofs.Try.f7).map toG = some G7 := by kernel_rfl
theorem G8_eq : (cF Go.Proofs.Try.prog 0 (planOf Go.Proofs.Try.prog 0) Go.Proofs.Try.f8).map toG = some G8 := by kernel_rfl
theorem G9_eq : (cF Go.Proofs.Try.prog 0 (planOf Go.Proofs.Try.prog 0) Go.Proofs.Try.f9).map toG = some G9 := by kernel_rfl
theorem G10_eq : (cF Go.Proofs.Try.prog 0 (planOf Go.Proofs.Try.prog 0) Go.Proofs.Try.f10).map toG = some G10 := by kernel_rfl
theorem G11_eq : (cF Go.Proofs.Try.prog 0 (planOf Go.Proofs.Try.prog 0) Go.Proofs.Try.f11).map toG = some G11 := by kernel_rfl
theorem G12_eq : (cF Go.Proofs.Try.prog 0 (planOf Go.Proofs.Try.prog 0) Go.Proofs.Try.f12).map toG = some G12 := by kernel_rfl
theorem G13_eq : (cF Go.Proofs.Try.prog 0 (planOf Go.Proofs.Try.prog 0) Go.Proofs.Try.f13).map toG = some G13 := by kernel_rfl
theorem G14_eq : (cF Go.Proofs.Try.prog 0 (planOf Go.Proofs.Try.prog 0) Go.Proofs.Try.f14).map toG = some G14 := by kernel_rfl
theorem G15_eq : (cF Go.Proofs.Try.prog 0 (planOf Go.Proofs.Try.prog 0) Go.Proofs.Try.f15).map toG = some G15 := by kernel_rfl
theorem G16_eq : (cF Go.Proofs.Try.prog 0 (planOf Go.Proofs.Try.prog 0) Go.Proofs.Try.f16).map toG = some G16 := by kernel_rfl
theorem G17_eq : (cF Go.Proofs.Try.prog 0 (planOf Go.Proofs.Try.prog 0) Go.Proofs.Try.f17).map toG = some G17 := by kernel_rfl
theorem G18_eq : (cF Go.Proofs.Try.prog 0 (planOf Go.Proofs.Try.prog 0) Go.Proofs.Try.f18).map toG = some G18 := by kernel_rfl
theorem G19_eq : (cF Go.Proofs.Try.prog 0 (planOf Go.Proofs.Try.prog 0) Go.Proofs.Try.f19).map toG = some G19 := by kernel_rfl
theorem G20_eq : (cF Go.Proofs.Try.prog 0 (planOf Go.Proofs.Try.prog 0) Go.Proofs.Try.f20).map toG = some G20 := by kernel_rfl
theorem G21_eq : (cF Go.Proofs.Try.prog 0 (planOf Go.Proofs.Try.prog 0) Go.Proofs.Try.f21).map toG = some G21 := by kernel_rfl
theorem G22_eq : (cF Go.Proofs.Try.prog 0 (planOf Go.Proofs.Try.prog 0) Go.Proofs.Try.f22).map toG = some G22 := by kernel_rfl
theorem G23_eq : (cF Go.Proofs.Try.prog 0 (planOf Go.Proofs.Try.prog 0) Go.Proofs.Try.f23).map toG = some G23 := by kernel_rfl
theorem G24_eq : (cF Go.Proofs.Try.prog 0 (planOf Go.Proofs.Try.prog 0) Go.Proofs.Try.f24).map toG = some G24 := by kernel_rfl
theorem G25_eq : (cF Go.Proofs.Try.prog 0 (planOf Go.Proofs.Try.prog 0) Go.Proofs.Try.f25).map toG = some G25 := by kernel_rfl
theorem G26_eq : (cF Go.Proofs.Try.prog 0 (planOf Go.Proofs.Try.prog 0) Go.Proofs.Try.f26).map toG = some G26 := by kernel_rfl
theorem G27_eq : (cF Go.Proofs.Try.prog 0 (planOf Go.Proofs.Try.prog 0) Go.Proofs.Try.f27).map toG = some G27 := by kernel_rfl
theorem G28_eq : (cF Go.Proofs.Try.prog 0 (planOf Go.Proofs.Try.prog 0) Go.Proofs.Try.f28).map toG = some G28 := by kernel_rfl
theorem G29_eq : (cF Go.Proofs.Try.prog 0 (planOf Go.Proofs.Try.prog 0) Go.Proofs.Try.f29).map toG = some G29 := by kernel_rfl
theorem G30_eq : (cF Go.Proofs.Try.prog 0 (planOf Go.Proofs.Try.prog 0) Go.Proofs.Try.f30).map toG = some G30 := by kernel_rfl
theorem G31_eq : (cF Go.Proofs.Try.prog 0 (planOf Go.Proofs.Try.prog 0) Go.Proofs.Try.f31).map toG = some G31 := by kernel_rfl
theorem G32_eq : (cF Go.Proofs.Try.prog 0 (planOf Go.Proofs.Try.prog 0) Go.Proofs.Try.f32).map toG = some G32 := by kernel_rfl
theorem G33_eq : (cF Go.Proofs.Try.prog 0 (planOf Go.Proofs.Try.prog 0) Go.Proofs.Try.f33).map toG = some G33 := by kernel_rfl
theorem G34_eq : (cF Go.Proofs.Try.prog 0 (planOf Go.Proofs.Try.prog 0) Go.Proofs.Try.f34).map toG = some G34 := by kernel_rfl
theorem G35_eq : (cF Go.Proofs.Try.prog 0 (planOf Go.Proofs.Try.prog 0) Go.Proofs.Try.f35).map toG = some G35 := by kernel_rfl
theorem G36_eq : (cF Go.Proofs.Try.prog 0 (planOf Go.Proofs.Try.prog 0) Go.Proofs.Try.f36).map toG = some G36 := by kernel_rfl
theorem G37_eq : (cF Go.Proofs.Try.prog 0 (planOf Go.Proofs.Try.prog 0) Go.Proofs.Try.f37).map toG = some G37 := by kernel_rfl
theorem G38_eq : (cF Go.Proofs.Try.prog 0 (planOf Go.Proofs.Try.prog 0) Go.Proofs.Try.f38).map toG = some G38 := by kernel_rfl
theorem G39_eq : (cF Go.Proofs.Try.prog 0 (planOf Go.Proofs.Try.prog 0) Go.Proofs.Try.f39).map toG = some G39 := by kernel_rfl
theorem G40_eq : (cF Go.Proofs.Try.prog 0 (planOf Go.Proofs.Try.prog 0) Go.Proofs.Try.f40).map toG = some G40 := by kernel_rfl
theorem G41_eq : (cF Go.Proofs.Try.prog 0 (planOf Go.Proofs.Try.prog 0) Go.Proofs.Try.f41).map toG = some G41 := by kernel_rfl
theorem G42_eq : (cF Go.Proofs.Try.prog 0 (planOf Go.Proofs.Try.prog 0) Go.Proofs.Try.f42).map toG = some G42 := by kernel_rfl
theorem G43_eq : (cF Go.Proofs.Try.prog 0 (planOf Go.Proofs.Try.prog 0) Go.Proofs.Try.f43).map toG = some G43 := by kernel_rfl
theorem G44_eq : (cF Go.Proofs.Try.prog 0 (planOf Go.Proofs.Try.prog 0) Go.Proofs.Try.f44).map toG = some G44 := by kernel_rfl
theorem G45_eq : (cF Go.Proofs.Try.prog 0 (planOf Go.Proofs.Try.prog 0) Go.Proofs.Try.f45).map toG = some G45 := by kernel_rfl
theorem G46_eq : (cF Go.Proofs.Try.prog 0 (planOf Go.Proofs.Try.prog 0) Go.Proofs.Try.f46).map toG = some G46 := by kernel_rfl
theorem G47_eq : (cF Go.Proofs.Try.prog 0 (planOf Go.Proofs.Try.prog 0) Go.Proofs.Try.f47).map toG = some G47 := by kernel_rfl
theorem G48_eq : (cF Go.Proofs.Try.prog 0 (planOf Go.Proofs.Try.prog 0) Go.Proofs.Try.f48).map toG = some G48 := by kernel_rfl
theorem G49_eq : (cF Go.Proofs.Try.prog 0 (planOf Go.Proofs.Try.prog 0) Go.Proofs.Try.f49).map toG = some G49 := by kernel_rfl
theorem G50_eq : (cF Go.Proofs.Try.prog 0 (planOf Go.Proofs.Try.prog 0) Go.Proofs.Try.f50).map toG = some G50 := by kernel_rfl
theorem G51_eq : (cF Go.Proofs.Try.prog 0 (planOf Go.Proofs.Try.prog 0) Go.Proofs.Try.f51).map toG = some G51 := by kernel_rfl
theorem G52_eq : (cF Go.Proofs.Try.prog 0 (planOf Go.Proofs.Try.prog 0) Go.Proofs.Try.f52).map toG = some G52 := by kernel_rfl
theorem G53_eq : (cF Go.Proofs.Try.prog 0 (planOf Go.Proofs.Try.prog 0) Go.Proofs.Try.f53).map toG = some G53 := by kernel_rfl
theorem G54_eq : (cF Go.Proofs.Try.prog 0 (planOf Go.Proofs.Try.prog 0) Go.Proofs.Try.f54).map toG = some G54 := by kernel_rfl
theorem G55_eq : (cF Go.Proofs.Try.prog 0 (planOf Go.Proofs.Try.prog 0) Go.Proofs.Try.f55).map toG = some G55 := by kernel_rfl
theorem G56_eq : (cF Go.Proofs.Try.prog 0 (planOf Go.Proofs.Try.prog 0) Go.Proofs.Try.f56).map toG = some G56 := by kernel_rfl
theorem G57_eq : (cF Go.Proofs.Try.prog 0 (planOf Go.Proofs.Try.prog 0) Go.Proofs.Try.f57).map toG = some G57 := by kernel_rfl
theorem G58_eq : (cF Go.Proofs.Try.prog 0 (planOf Go.Proofs.Try.prog 0) Go.Proofs.Try.f58).map toG = some G58 := by kernel_rfl
theorem G59_eq : (cF Go.Proofs.Try.prog 0 (planOf Go.Proofs.Try.prog 0) Go.Proofs.Try.f59).map toG = some G59 := by kernel_rfl
theorem G60_eq : (cF Go.Proofs.Try.prog 0 (planOf Go.Proofs.Try.prog 0) Go.Proofs.Try.f60).map toG = some G60 := by kernel_rfl
theorem G61_eq : (cF Go.Proofs.Try.prog 0 (planOf Go.Proofs.Try.prog 0) Go.Proofs.Try.f61).map toG = some G61 := by kernel_rfl
theorem e4 {p : Path} (h : p.num = 4 := by rfl) : @EntG noEnv Go.Proofs.Try.prog 0 (planOf Go.Proofs.Try.prog 0) p (some G4) := EntG.some Go.Proofs.Try.func4 G4_eq h
theorem e6 {p : Path} (h : p.num = 6 := by rfl) : @EntG noEnv Go.Proofs.Try.prog 0 (planOf Go.Proofs.Try.prog 0) p (some G6) := EntG.some Go.Proofs.Try.func6 G6_eq h
theorem e7 {p : Path} (h : p.num = 7 := by rfl) : @EntG noEnv Go.Proofs.Try.prog 0 (planOf Go.Proofs.Try.prog 0) p (some G7) := EntG.some Go.Proofs.Try.func7 G7_eq h
theorem e8 {p : Path} (h : p.num = 8 := by rfl) : @EntG noEnv Go.Proofs.Try.prog 0 (planOf Go.Proofs.Try.prog 0) p (some G8) := EntG.some Go.Proofs.Try.func8 G8_eq h
theorem e9 {p : Path} (h : p.num = 9 := by rfl) : @EntG noEnv Go.Proofs.Try.prog 0 (planOf Go.Proofs.Try.prog 0) p (some G9) := EntG.some Go.Proofs.Try.func9 G9_eq h
theorem e10 {p : Path} (h : p.num = 10 := by rfl) : @EntG noEnv Go.Proofs.Try.prog 0 (planOf Go.Proofs.Try.prog 0) p (some G10) := EntG.some Go.Proofs.Try.func10 G10_eq h
theorem e11 {p : Path} (h : p.num = 11 := by rfl) : @EntG noEnv Go.Proofs.Try.prog 0 (planOf Go.Proofs.Try.prog 0) p (some G11) := EntG.some Go.Proofs.Try.func11 G11_eq h
theorem e12 {p : Path} (h : p.num = 12 := by rfl) : @EntG noEnv Go.Proofs.Try.prog 0 (planOf Go.Proofs.Try.prog 0) p (some G12) := EntG.some Go.Proofs.Try.func12 G12_eq h
theorem e13 {p : Path} (h : p.num = 13 := by rfl) : @EntG noEnv Go.Proofs.Try.prog 0 (planOf Go.Proofs.Try.prog 0) p (some G13) := EntG.some Go.Proofs.Try.func13 G13_eq h
theorem e14 {p : Path} (h : p.num = 14 := by rfl) : @EntG noEnv Go.Proofs.Try.prog 0 (planOf Go.Proofs.Try.prog 0) p (some G14) := EntG.some Go.Proofs.Try.func14 G14_eq h
theorem e15 {p : Path} (h : p.num = 15 := by rfl) : @EntG noEnv Go.Proofs.Try.prog 0 (planOf Go.Proofs.Try.prog 0) p (some G15) := EntG.some Go.Proofs.Try.func15 G15_eq h
theorem e16 {p : Path} (h : p.num = 16 := by rfl) : @EntG noEnv Go.Proofs.Try.prog 0 (planOf Go.Proofs.Try.prog 0) p (some G16) := EntG.some Go.Proofs.Try.func16 G16_eq h
theorem e17 {p : Path} (h : p.num = 17 := by rfl) : @EntG noEnv Go.Proofs.Try.prog 0 (planOf Go.Proofs.Try.prog 0) p (some G17) := EntG.some Go.Proofs.Try.func17 G17_eq h
theorem e18 {p : Path} (h : p.num = 18 := by rfl) : @EntG noEnv Go.Proofs.Try.prog 0 (planOf Go.Proofs.Try.prog 0) p (some G18) := EntG.some Go.Proofs.Try.func18 G18_eq h
theorem e19 {p : Path} (h : p.num = 19 := by rfl) : @EntG noEnv Go.Proofs.Try.prog 0 (planOf Go.Proofs.Try.prog 0) p (some G19) := EntG.some Go.Proofs.Try.func19 G19_eq h
theorem e20 {p : Path} (h : p.num = 20 := by rfl) : @EntG noEnv Go.Proofs.Try.prog 0 (planOf Go.Proofs.Try.prog 0) p (some G20) := EntG.some Go.Proofs.Try.func20 G20_eq h
theorem e21 {p : Path} (h : p.num = 21 := by rfl) : @EntG noEnv Go.Proofs.Try.prog 0 (planOf Go.Proofs.Try.prog 0) p (some G21) := EntG.some Go.Proofs.Try.func21 G21_eq h
theorem e22 {p : Path} (h : p.num = 22 := by rfl) : @EntG noEnv Go.Proofs.Try.prog 0 (planOf Go.Proofs.Try.prog 0) p (some G22) := EntG.some Go.Proofs.Try.func22 G22_eq h
theorem e23 {p : Path} (h : p.num = 23 := by rfl) : @EntG noEnv Go.Proofs.Try.prog 0 (planOf Go.Proofs.Try.prog 0) p (some G23) := EntG.some Go.Proofs.Try.func23 G23_eq h
theorem e24 {p : Path} (h : p.num = 24 := by rfl) : @EntG noEnv Go.Proofs.Try.prog 0 (planOf Go.Proofs.Try.prog 0) p (some G24) := EntG.some Go.Proofs.Try.func24 G24_eq h
theorem e25 {p : Path} (h : p.num = 25 := by rfl) : @EntG noEnv Go.Proofs.Try.prog 0 (planOf Go.Proofs.Try.prog 0) p (some G25) := EntG.some Go.Proofs.Try.func25 G25_eq h
theorem e26 {p : Path} (h : p.num = 26 := by rfl) : @EntG noEnv Go.Proofs.Try.prog 0 (planOf Go.Proofs.Try.prog 0) p (some G26) := EntG.some Go.Proofs.Try.func26 G26_eq h
theorem e27 {p : Path} (h : p.num = 27 := by rfl) : @EntG noEnv Go.Proofs.Try.prog 0 (planOf Go.Proofs.Try.prog 0) p (some G27) := EntG.some Go.Proofs.Try.func27 G27_eq h
theorem e28 {p : Path} (h : p.num = 28 := by rfl) : @EntG noEnv Go.Proofs.Try.prog 0 (planOf Go.Proofs.Try.prog 0) p (some G28) := EntG.some Go.Proofs.Try.func28 G28_eq h
theorem e29 {p : Path} (h : p.num = 29 := by rfl) : @EntG noEnv Go.Proofs.Try.prog 0 (planOf Go.Proofs.Try.prog 0) p (some G29) := EntG.some Go.Proofs.Try.func29 G29_eq h
theorem e30 {p : Path} (h : p.num = 30 := by rfl) : @EntG noEnv Go.Proofs.Try.prog 0 (planOf Go.Proofs.Try.prog 0) p (some G30) := EntG.some Go.Proofs.Try.func30 G30_eq h
theorem e31 {p : Path} (h : p.num = 31 := by rfl) : @EntG noEnv Go.Proofs.Try.prog 0 (planOf Go.Proofs.Try.prog 0) p (some G31) := EntG.some Go.Proofs.Try.func31 G31_eq h
theorem e32 {p : Path} (h : p.num = 32 := by rfl) : @EntG noEnv Go.Proofs.Try.prog 0 (planOf Go.Proofs.Try.prog 0) p (some G32) := EntG.some Go.Proofs.Try.func32 G32_eq h
theorem e33 {p : Path} (h : p.num = 33 := by rfl) : @EntG noEnv Go.Proofs.Try.prog 0 (planOf Go.Proofs.Try.prog 0) p (some G33) := EntG.some Go.Proofs.Try.func33 G33_eq h
theorem e34 {p : Path} (h : p.num = 34 := by rfl) : @EntG noEnv Go.Proofs.Try.prog 0 (planOf Go.Proofs.Try.prog 0) p (some G34) := EntG.some Go.Proofs.Try.func34 G34_eq h
theorem e35 {p : Path} (h : p.num = 35 := by rfl) : @EntG noEnv Go.Proofs.Try.prog 0 (planOf Go.Proofs.Try.prog 0) p (some G35) := EntG.some Go.Proofs.Try.func35 G35_eq h
theorem e36 {p : Path} (h : p.num = 36 := by rfl) : @EntG noEnv Go.Proofs.Try.prog 0 (planOf Go.Proofs.Try.prog 0) p (some G36) := EntG.some Go.Proofs.Try.func36 G36_eq h
theorem e37 {p : Path} (h : p.num = 37 := by rfl) : @EntG noEnv Go.Proofs.Try.prog 0 (planOf Go.Proofs.Try.prog 0) p (some G37) := EntG.some Go.Proofs.Try.func37 G37_eq h
theorem e38 {p : Path} (h : p.num = 38 := by rfl) : @EntG noEnv Go.Proofs.Try.prog 0 (planOf Go.Proofs.Try.prog 0) p (some G38) := EntG.some Go.Proofs.Try.func38 G38_eq h
theorem e39 {p : Path} (h : p.num = 39 := by rfl) : @EntG noEnv Go.Proofs.Try.prog 0 (planOf Go.Proofs.Try.prog 0) p (some G39) := EntG.some Go.Proofs.Try.func39 G39_eq h
theorem e40 {p : Path} (h : p.num = 40 := by rfl) : @EntG noEnv Go.Proofs.Try.prog 0 (planOf Go.Proofs.Try.prog 0) p (some G40) := EntG.some Go.Proofs.Try.func40 G40_eq h
theorem e41 {p : Path} (h : p.num = 41 := by rfl) : @EntG noEnv Go.Proofs.Try.prog 0 (planOf Go.Proofs.Try.prog 0) p (some G41) := EntG.some Go.Proofs.Try.func41 G41_eq h
theorem e42 {p : Path} (h : p.num = 42 := by rfl) : @EntG noEnv Go.Proofs.Try.prog 0 (planOf Go.Proofs.Try.prog 0) p (some G42) := EntG.some Go.Proofs.Try.func42 G42_eq h
theorem e43 {p : Path} (h : p.num = 43 := by rfl) : @EntG noEnv Go.Proofs.Try.prog 0 (planOf Go.Proofs.Try.prog 0) p (some G43) := EntG.some Go.Proofs.Try.func43 G43_eq h
theorem e44 {p : Path} (h : p.num = 44 := by rfl) : @EntG noEnv Go.Proofs.Try.prog 0 (planOf Go.Proofs.Try.prog 0) p (some G44) := EntG.some Go.Proofs.Try.func44 G44_eq h
theorem e45 {p : Path} (h : p.num = 45 := by rfl) : @EntG noEnv Go.Proofs.Try.prog 0 (planOf Go.Proofs.Try.prog 0) p (some G45) := EntG.some Go.Proofs.Try.func45 G45_eq h
theorem e46 {p : Path} (h : p.num = 46 := by rfl) : @EntG noEnv Go.Proofs.Try.prog 0 (planOf Go.Proofs.Try.prog 0) p (some G46) := EntG.some Go.Proofs.Try.func46 G46_eq h
theorem e47 {p : Path} (h : p.num = 47 := by rfl) : @EntG noEnv Go.Proofs.Try.prog 0 (planOf Go.Proofs.Try.prog 0) p (some G47) := EntG.some Go.Proofs.Try.func47 G47_eq h
theorem e48 {p : Path} (h : p.num = 48 := by rfl) : @EntG noEnv Go.Proofs.Try.prog 0 (planOf Go.Proofs.Try.prog 0) p (some G48) := EntG.some Go.Proofs.Try.func48 G48_eq h
theorem e49 {p : Path} (h : p.num = 49 := by rfl) : @EntG noEnv Go.Proofs.Try.prog 0 (planOf Go.Proofs.Try.prog 0) p (some G49) := EntG.some Go.Proofs.Try.func49 G49_eq h
theorem e50 {p : Path} (h : p.num = 50 := by rfl) : @EntG noEnv Go.Proofs.Try.prog 0 (planOf Go.Proofs.Try.prog 0) p (some G50) := EntG.some Go.Proofs.Try.func50 G50_eq h
theorem e51 {p : Path} (h : p.num = 51 := by rfl) : @EntG noEnv Go.Proofs.Try.prog 0 (planOf Go.Proofs.Try.prog 0) p (some G51) := EntG.some Go.Proofs.Try.func51 G51_eq h
theorem e52 {p : Path} (h : p.num = 52 := by rfl) : @EntG noEnv Go.Proofs.Try.prog 0 (planOf Go.Proofs.Try.prog 0) p (some G52) := EntG.some Go.Proofs.Try.func52 G52_eq h
theorem e53 {p : Path} (h : p.num = 53 := by rfl) : @EntG noEnv Go.Proofs.Try.prog 0 (planOf Go.Proofs.Try.prog 0) p (some G53) := EntG.some Go.Proofs.Try.func53 G53_eq h
theorem e54 {p : Path} (h : p.num = 54 := by rfl) : @EntG noEnv Go.Proofs.Try.prog 0 (planOf Go.Proofs.Try.prog 0) p (some G54) := EntG.some Go.Proofs.Try.func54 G54_eq h
theorem e55 {p : Path} (h : p.num = 55 := by rfl) : @EntG noEnv Go.Proofs.Try.prog 0 (planOf Go.Proofs.Try.prog 0) p (some G55) := EntG.some Go.Proofs.Try.func55 G55_eq h
theorem e56 {p : Path} (h : p.num = 56 := by rfl) : @EntG noEnv Go.Proofs.Try.prog 0 (planOf Go.Proofs.Try.prog 0) p (some G56) := EntG.some Go.Proofs.Try.func56 G56_eq h
theorem e57 {p : Path} (h : p.num = 57 := by rfl) : @EntG noEnv Go.Proofs.Try.prog 0 (planOf Go.Proofs.Try.prog 0) p (some G57) := EntG.some Go.Proofs.Try.func57 G57_eq h
theorem e58 {p : Path} (h : p.num = 58 := by rfl) : @EntG noEnv Go.Proofs.Try.prog 0 (planOf Go.Proofs.Try.prog 0) p (some G58) := EntG.some Go.Proofs.Try.func58 G58_eq h
theorem e59 {p : Path} (h : p.num = 59 := by rfl) : @EntG noEnv Go.Proofs.Try.prog 0 (planOf Go.Proofs.Try.prog 0) p (some G59) := EntG.some Go.Proofs.Try.func59 G59_eq h
theorem e60 {p : Path} (h : p.num = 60 := by rfl) : @EntG noEnv Go.Proofs.Try.prog 0 (planOf Go.Proofs.Try.prog 0) p (some G60) := EntG.some Go.Proofs.Try.func60 G60_eq h
theorem e61 {p : Path} (h : p.num = 61 := by rfl) : @EntG noEnv Go.Proofs.Try.prog 0 (planOf Go.Proofs.Try.prog 0) p (some G61) := EntG.some Go.Proofs.Try.func61 G61_eq h
theorem tab_ok : AllT (@EntG noEnv Go.Proofs.Try.prog 0 (planOf Go.Proofs.Try.prog 0)) tab := (show AllT _ tab from ⟨EntG.none, ⟨EntG.none, ⟨EntG.none, ⟨e7, ⟨e15, ⟨e31, ⟨EntG.none, trivial, trivial⟩, trivial⟩, ⟨e47, trivial, trivial⟩⟩, ⟨e23, ⟨e39, ⟨EntG.none, trivial, trivial⟩, trivial⟩, ⟨e55, trivial, trivial⟩⟩⟩, ⟨e11, ⟨e19, ⟨e35, ⟨EntG.none, trivial, trivial⟩, trivial⟩, ⟨e51, trivial, trivial⟩⟩, ⟨e27, ⟨e43, ⟨EntG.none, trivial, trivial⟩, trivial⟩, ⟨e59, trivial, trivial⟩⟩⟩⟩, ⟨EntG.none, ⟨e9, ⟨e17, ⟨e33, ⟨EntG.none, trivial, trivial⟩, trivial⟩, ⟨e49, trivial, trivial⟩⟩, ⟨e25, ⟨e41, ⟨EntG.none, trivial, trivial⟩, trivial⟩, ⟨e57, trivial, trivial⟩⟩⟩, ⟨e13, ⟨e21, ⟨e37, ⟨EntG.none, trivial, trivial⟩, trivial⟩, ⟨e53, trivial, trivial⟩⟩, ⟨e29, ⟨e45, ⟨EntG.none, trivial, trivial⟩, trivial⟩, ⟨e61, trivial, trivial⟩⟩⟩⟩⟩, ⟨EntG.none, ⟨e4, ⟨e8, ⟨e16, ⟨e32, ⟨EntG.none, trivial, trivial⟩, trivial⟩, ⟨e48, trivial, trivial⟩⟩, ⟨e24, ⟨e40, ⟨EntG.none, trivial, trivial⟩, trivial⟩, ⟨e56, trivial, trivial⟩⟩⟩, ⟨e12, ⟨e20, ⟨e36, ⟨EntG.none, trivial, trivial⟩, trivial⟩, ⟨e52, trivial, trivial⟩⟩, ⟨e28, ⟨e44, ⟨EntG.none, trivial, trivial⟩, trivial⟩, ⟨e60, trivial, trivial⟩⟩⟩⟩, ⟨e6, ⟨e10, ⟨e18, ⟨e34, ⟨EntG.none, trivial, trivial⟩, trivial⟩, ⟨e50, trivial, trivial⟩⟩, ⟨e26, ⟨e42, ⟨EntG.none, trivial, trivial⟩, trivial⟩, ⟨e58, trivial, trivial⟩⟩⟩, ⟨e14, ⟨e22, ⟨e38, ⟨EntG.none, trivial, trivial⟩, trivial⟩, ⟨e54, trivial, trivial⟩⟩, ⟨e30, ⟨e46, trivial, trivial⟩, ⟨EntG.none, trivial, trivial⟩⟩⟩⟩⟩⟩)
theorem runs : endsJ (goT tab 1000000 q4 [] ⟨.nil, .e⟩) = true := by kernel_rfl
theorem begun (w : World) : Calls Go.Proofs.Try.prog 4 #[] w fun e w' => e = .returned (.bool true) ∧ RowKit.Below w.heap.size w w' :=
  Go.Eng.calls_trueJ (f := q4) (by kernel_rfl) tab_ok runs w
#print axioms begun
end Go.Proofs.YtjngjfgbholgpaaBegun

