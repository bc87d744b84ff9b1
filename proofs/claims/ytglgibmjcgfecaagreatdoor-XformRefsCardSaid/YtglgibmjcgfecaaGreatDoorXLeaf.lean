/- XformFollows and XformRefs: what begun and some leaves answer, by the prover's engine. -/
import Derived.Test.YtglgibmjcgfecaaGreatDoorEngRa
import Derived.Test.YtglgibmjcgfecaaGreatDoorProg
import Derived.KernelRfl
set_option linter.unusedSimpArgs false
set_option linter.unusedVariables false
namespace Go.Proofs.YtglgibmjcgfecaaGreatDoor
open Go Go.Eng
namespace Code
set_option maxRecDepth 100000
set_option linter.unusedVariables false
abbrev n6 (n : Nat) : V := .i .i64 (.ofNat n)
abbrev n8 (n : Nat) : V := .i .u8 (.ofNat n)
noncomputable def q0 : Path := .e
noncomputable def q1 : Path := (.l q0)
noncomputable def q2 : Path := (.r q0)
noncomputable def q3 : Path := (.l q1)
noncomputable def q4 : Path := (.r q1)
noncomputable def q5 : Path := (.l q2)
noncomputable def q6 : Path := (.r q2)
noncomputable def q7 : Path := (.l q3)
noncomputable def q8 : Path := (.r q3)
noncomputable def q9 : Path := (.l q4)
noncomputable def q10 : Path := (.r q4)
noncomputable def q11 : Path := (.l q5)
noncomputable def q12 : Path := (.r q5)
noncomputable def q13 : Path := (.l q6)
noncomputable def q14 : Path := (.r q6)
noncomputable def q15 : Path := (.l q7)
noncomputable def q16 : Path := (.r q7)
noncomputable def q17 : Path := (.l q8)
noncomputable def q18 : Path := (.r q8)
noncomputable def q19 : Path := (.l q9)
noncomputable def q20 : Path := (.r q9)
noncomputable def q21 : Path := (.l q10)
noncomputable def q22 : Path := (.r q10)
noncomputable def q23 : Path := (.l q11)
noncomputable def q24 : Path := (.r q11)
noncomputable def q25 : Path := (.l q12)
noncomputable def q26 : Path := (.r q12)
noncomputable def q27 : Path := (.l q13)
noncomputable def q28 : Path := (.r q13)
noncomputable def q29 : Path := (.l q14)
noncomputable def q30 : Path := (.r q14)
noncomputable def q31 : Path := (.l q15)
noncomputable def q32 : Path := (.r q15)
noncomputable def q33 : Path := (.l q16)
noncomputable def q34 : Path := (.r q16)
noncomputable def q35 : Path := (.l q17)
noncomputable def q36 : Path := (.r q17)
noncomputable def q37 : Path := (.l q18)
noncomputable def q38 : Path := (.r q18)
noncomputable def q39 : Path := (.l q19)
noncomputable def q40 : Path := (.r q19)
noncomputable def q41 : Path := (.l q20)
noncomputable def q42 : Path := (.r q20)
noncomputable def q43 : Path := (.l q21)
noncomputable def q44 : Path := (.r q21)
noncomputable def q45 : Path := (.l q22)
noncomputable def q46 : Path := (.r q22)
noncomputable def q47 : Path := (.l q23)
noncomputable def q48 : Path := (.r q23)
noncomputable def q49 : Path := (.l q24)
noncomputable def q50 : Path := (.r q24)
noncomputable def q51 : Path := (.l q25)
noncomputable def q52 : Path := (.r q25)
noncomputable def q53 : Path := (.l q26)
noncomputable def q54 : Path := (.r q26)
noncomputable def q55 : Path := (.l q27)
noncomputable def q56 : Path := (.r q27)
noncomputable def q57 : Path := (.l q28)
noncomputable def q58 : Path := (.r q28)
noncomputable def q59 : Path := (.l q29)
noncomputable def q60 : Path := (.r q29)
noncomputable def q61 : Path := (.l q30)
noncomputable def q62 : Path := (.r q30)
noncomputable def q63 : Path := (.l q31)
noncomputable def q64 : Path := (.r q31)
noncomputable def q65 : Path := (.l q32)
noncomputable def q66 : Path := (.r q32)
noncomputable def q67 : Path := (.l q33)
noncomputable def q68 : Path := (.r q33)
noncomputable def q69 : Path := (.l q34)
noncomputable def q70 : Path := (.r q34)
noncomputable def q71 : Path := (.l q35)
noncomputable def q72 : Path := (.r q35)
noncomputable def q73 : Path := (.l q36)
noncomputable def q74 : Path := (.r q36)
noncomputable def q75 : Path := (.l q37)
noncomputable def q76 : Path := (.r q37)
noncomputable def q77 : Path := (.l q38)
noncomputable def q78 : Path := (.r q38)
noncomputable def q79 : Path := (.l q39)
noncomputable def q80 : Path := (.r q39)
noncomputable def q81 : Path := (.l q40)
noncomputable def q82 : Path := (.r q40)
noncomputable def q83 : Path := (.l q41)
noncomputable def q84 : Path := (.r q41)
noncomputable def q85 : Path := (.l q42)
noncomputable def q86 : Path := (.r q42)
noncomputable def q87 : Path := (.l q43)
noncomputable def q88 : Path := (.r q43)
noncomputable def q89 : Path := (.l q44)
noncomputable def q90 : Path := (.r q44)
noncomputable def q91 : Path := (.l q45)
noncomputable def q92 : Path := (.r q45)
noncomputable def q93 : Path := (.l q46)
noncomputable def q94 : Path := (.r q46)
noncomputable def q95 : Path := (.l q47)
noncomputable def q96 : Path := (.r q47)
noncomputable def q97 : Path := (.l q48)
noncomputable def q98 : Path := (.r q48)
noncomputable def q99 : Path := (.l q49)
noncomputable def q100 : Path := (.r q49)
noncomputable def q101 : Path := (.l q50)
noncomputable def q102 : Path := (.r q50)
noncomputable def q103 : Path := (.l q51)
noncomputable def q104 : Path := (.r q51)
noncomputable def q105 : Path := (.l q52)
noncomputable def q106 : Path := (.r q52)
noncomputable def q107 : Path := (.l q53)
noncomputable def q108 : Path := (.r q53)
noncomputable def q109 : Path := (.l q54)
noncomputable def q110 : Path := (.r q54)
noncomputable def q111 : Path := (.l q55)
noncomputable def q112 : Path := (.r q55)
noncomputable def q113 : Path := (.l q56)
noncomputable def q114 : Path := (.r q56)
noncomputable def q115 : Path := (.l q57)
noncomputable def q116 : Path := (.r q57)
noncomputable def q117 : Path := (.l q58)
noncomputable def q118 : Path := (.r q58)
noncomputable def q119 : Path := (.l q59)
noncomputable def q120 : Path := (.r q59)
noncomputable def q121 : Path := (.l q60)
noncomputable def q122 : Path := (.r q60)
noncomputable def q123 : Path := (.l q61)
noncomputable def q124 : Path := (.r q61)
noncomputable def q125 : Path := (.l q62)
noncomputable def q126 : Path := (.r q62)
noncomputable def q127 : Path := (.l q63)
noncomputable def q128 : Path := (.r q63)
noncomputable def q129 : Path := (.l q64)
noncomputable def q130 : Path := (.r q64)
noncomputable def q131 : Path := (.l q65)
noncomputable def q132 : Path := (.r q65)
noncomputable def q133 : Path := (.l q66)
noncomputable def q134 : Path := (.r q66)
noncomputable def q135 : Path := (.l q67)
noncomputable def q136 : Path := (.r q67)
noncomputable def q137 : Path := (.l q68)
noncomputable def q138 : Path := (.r q68)
noncomputable def q139 : Path := (.l q69)
noncomputable def q140 : Path := (.r q69)
noncomputable def q141 : Path := (.l q70)
noncomputable def q142 : Path := (.r q70)
noncomputable def q143 : Path := (.l q71)
noncomputable def q144 : Path := (.r q71)
noncomputable def q145 : Path := (.l q72)
noncomputable def q146 : Path := (.r q72)
noncomputable def q147 : Path := (.l q73)
noncomputable def q148 : Path := (.r q73)
noncomputable def q149 : Path := (.l q74)
noncomputable def q150 : Path := (.r q74)
noncomputable def q151 : Path := (.l q75)
noncomputable def q152 : Path := (.r q75)
noncomputable def q153 : Path := (.l q76)
noncomputable def q154 : Path := (.r q76)
noncomputable def q155 : Path := (.l q77)
noncomputable def q156 : Path := (.r q77)
noncomputable def q157 : Path := (.l q78)
noncomputable def q158 : Path := (.r q78)
noncomputable def q159 : Path := (.l q79)
noncomputable def q160 : Path := (.r q79)
noncomputable def q161 : Path := (.l q80)
noncomputable def q162 : Path := (.r q80)
noncomputable def q163 : Path := (.l q81)
noncomputable def q164 : Path := (.r q81)
noncomputable def q165 : Path := (.l q82)
noncomputable def q166 : Path := (.r q82)
noncomputable def q167 : Path := (.l q83)
noncomputable def q168 : Path := (.r q83)
noncomputable def q169 : Path := (.l q84)
noncomputable def q170 : Path := (.r q84)
noncomputable def q171 : Path := (.l q85)
noncomputable def q172 : Path := (.r q85)
noncomputable def q173 : Path := (.l q86)
noncomputable def q174 : Path := (.r q86)
noncomputable def q175 : Path := (.l q87)
noncomputable def q176 : Path := (.r q87)
noncomputable def q177 : Path := (.l q88)
noncomputable def q178 : Path := (.r q88)
noncomputable def q179 : Path := (.l q89)
noncomputable def q180 : Path := (.r q89)
noncomputable def q181 : Path := (.l q90)
noncomputable def q182 : Path := (.r q90)
noncomputable def q183 : Path := (.l q91)
noncomputable def q184 : Path := (.r q91)
noncomputable def q185 : Path := (.l q92)
noncomputable def q186 : Path := (.r q92)
noncomputable def q187 : Path := (.l q93)
noncomputable def q188 : Path := (.r q93)
noncomputable def q189 : Path := (.l q94)
noncomputable def q190 : Path := (.r q94)
noncomputable def q191 : Path := (.l q95)
noncomputable def q192 : Path := (.r q95)
noncomputable def q193 : Path := (.l q96)
noncomputable def q194 : Path := (.r q96)
noncomputable def q195 : Path := (.l q97)
noncomputable def q196 : Path := (.r q97)
noncomputable def q197 : Path := (.l q98)
noncomputable def q198 : Path := (.r q98)
noncomputable def q199 : Path := (.l q99)
noncomputable def q200 : Path := (.r q99)
noncomputable def q201 : Path := (.l q100)
noncomputable def q202 : Path := (.r q100)
noncomputable def q203 : Path := (.l q101)
noncomputable def q204 : Path := (.r q101)
noncomputable def t0 : Opd := .t q0
noncomputable def t1 : Opd := .t q1
noncomputable def t2 : Opd := .t q2
noncomputable def t3 : Opd := .t q3
noncomputable def t4 : Opd := .t q4
noncomputable def t5 : Opd := .t q5
noncomputable def t6 : Opd := .t q6
noncomputable def t7 : Opd := .t q7
noncomputable def t8 : Opd := .t q8
noncomputable def t9 : Opd := .t q9
noncomputable def t10 : Opd := .t q10
noncomputable def t11 : Opd := .t q11
noncomputable def t12 : Opd := .t q12
noncomputable def t13 : Opd := .t q13
noncomputable def t14 : Opd := .t q14
noncomputable def t15 : Opd := .t q15
noncomputable def t16 : Opd := .t q16
noncomputable def t17 : Opd := .t q17
noncomputable def t18 : Opd := .t q18
noncomputable def t19 : Opd := .t q19
noncomputable def t20 : Opd := .t q20
noncomputable def t21 : Opd := .t q21
noncomputable def t22 : Opd := .t q22
noncomputable def t23 : Opd := .t q23
noncomputable def t24 : Opd := .t q24
noncomputable def t25 : Opd := .t q25
noncomputable def t26 : Opd := .t q26
noncomputable def t27 : Opd := .t q27
noncomputable def t28 : Opd := .t q28
noncomputable def t29 : Opd := .t q29
noncomputable def t30 : Opd := .t q30
noncomputable def t31 : Opd := .t q31
noncomputable def t32 : Opd := .t q32
noncomputable def t33 : Opd := .t q33
noncomputable def t34 : Opd := .t q34
noncomputable def t35 : Opd := .t q35
noncomputable def t36 : Opd := .t q36
noncomputable def t37 : Opd := .t q37
noncomputable def t38 : Opd := .t q38
noncomputable def t39 : Opd := .t q39
noncomputable def t40 : Opd := .t q40
noncomputable def t41 : Opd := .t q41
noncomputable def t42 : Opd := .t q42
noncomputable def t43 : Opd := .t q43
noncomputable def t44 : Opd := .t q44
noncomputable def t45 : Opd := .t q45
noncomputable def t46 : Opd := .t q46
noncomputable def t47 : Opd := .t q47
noncomputable def t48 : Opd := .t q48
noncomputable def t49 : Opd := .t q49
noncomputable def t50 : Opd := .t q50
noncomputable def t51 : Opd := .t q51
noncomputable def t52 : Opd := .t q52
noncomputable def t53 : Opd := .t q53
noncomputable def t54 : Opd := .t q54
noncomputable def t55 : Opd := .t q55
noncomputable def t56 : Opd := .t q56
noncomputable def t57 : Opd := .t q57
noncomputable def t58 : Opd := .t q58
noncomputable def t59 : Opd := .t q59
noncomputable def t60 : Opd := .t q60
noncomputable def t61 : Opd := .t q61
noncomputable def t62 : Opd := .t q62
noncomputable def t63 : Opd := .t q63
noncomputable def t64 : Opd := .t q64
noncomputable def t65 : Opd := .t q65
noncomputable def t66 : Opd := .t q66
noncomputable def t67 : Opd := .t q67
noncomputable def t68 : Opd := .t q68
noncomputable def t69 : Opd := .t q69
noncomputable def t70 : Opd := .t q70
noncomputable def t71 : Opd := .t q71
noncomputable def t72 : Opd := .t q72
noncomputable def t73 : Opd := .t q73
noncomputable def t74 : Opd := .t q74
noncomputable def t75 : Opd := .t q75
noncomputable def t76 : Opd := .t q76
noncomputable def t77 : Opd := .t q77
noncomputable def t78 : Opd := .t q78
noncomputable def t79 : Opd := .t q79
noncomputable def t80 : Opd := .t q80
noncomputable def t81 : Opd := .t q81
noncomputable def t82 : Opd := .t q82
noncomputable def t83 : Opd := .t q83
noncomputable def t84 : Opd := .t q84
noncomputable def t85 : Opd := .t q85
noncomputable def t86 : Opd := .t q86
noncomputable def t87 : Opd := .t q87
noncomputable def t88 : Opd := .t q88
noncomputable def t89 : Opd := .t q89
noncomputable def t90 : Opd := .t q90
noncomputable def t91 : Opd := .t q91
noncomputable def t92 : Opd := .t q92
noncomputable def t93 : Opd := .t q93
noncomputable def t94 : Opd := .t q94
noncomputable def t95 : Opd := .t q95
noncomputable def t96 : Opd := .t q96
noncomputable def t97 : Opd := .t q97
noncomputable def t98 : Opd := .t q98
noncomputable def t99 : Opd := .t q99
noncomputable def t100 : Opd := .t q100
noncomputable def t101 : Opd := .t q101
noncomputable def t102 : Opd := .t q102
noncomputable def t103 : Opd := .t q103
noncomputable def t104 : Opd := .t q104
noncomputable def t105 : Opd := .t q105
noncomputable def t106 : Opd := .t q106
noncomputable def t107 : Opd := .t q107
noncomputable def t108 : Opd := .t q108
noncomputable def t109 : Opd := .t q109
noncomputable def t110 : Opd := .t q110
noncomputable def t111 : Opd := .t q111
noncomputable def t112 : Opd := .t q112
noncomputable def t113 : Opd := .t q113
noncomputable def t114 : Opd := .t q114
noncomputable def t115 : Opd := .t q115
noncomputable def t116 : Opd := .t q116
noncomputable def t117 : Opd := .t q117
noncomputable def t118 : Opd := .t q118
noncomputable def t119 : Opd := .t q119
noncomputable def t120 : Opd := .t q120
noncomputable def t121 : Opd := .t q121
noncomputable def t122 : Opd := .t q122
noncomputable def t123 : Opd := .t q123
noncomputable def t124 : Opd := .t q124
noncomputable def t125 : Opd := .t q125
noncomputable def t126 : Opd := .t q126
noncomputable def t127 : Opd := .t q127
noncomputable def t128 : Opd := .t q128
noncomputable def t129 : Opd := .t q129
noncomputable def t130 : Opd := .t q130
noncomputable def t131 : Opd := .t q131
noncomputable def t132 : Opd := .t q132
noncomputable def t133 : Opd := .t q133
noncomputable def t134 : Opd := .t q134
noncomputable def t135 : Opd := .t q135
noncomputable def t136 : Opd := .t q136
noncomputable def t137 : Opd := .t q137
noncomputable def t138 : Opd := .t q138
noncomputable def t139 : Opd := .t q139
noncomputable def t140 : Opd := .t q140
noncomputable def t141 : Opd := .t q141
noncomputable def t142 : Opd := .t q142
noncomputable def t143 : Opd := .t q143
noncomputable def t144 : Opd := .t q144
noncomputable def t145 : Opd := .t q145
noncomputable def t146 : Opd := .t q146
noncomputable def t147 : Opd := .t q147
noncomputable def t148 : Opd := .t q148
noncomputable def t149 : Opd := .t q149
noncomputable def t150 : Opd := .t q150
noncomputable def t151 : Opd := .t q151
noncomputable def t152 : Opd := .t q152
noncomputable def t153 : Opd := .t q153
noncomputable def t154 : Opd := .t q154
noncomputable def t155 : Opd := .t q155
noncomputable def t156 : Opd := .t q156
noncomputable def t157 : Opd := .t q157
noncomputable def t158 : Opd := .t q158
noncomputable def t159 : Opd := .t q159
noncomputable def t160 : Opd := .t q160
noncomputable def t161 : Opd := .t q161
noncomputable def t162 : Opd := .t q162
noncomputable def t163 : Opd := .t q163
noncomputable def t164 : Opd := .t q164
noncomputable def t165 : Opd := .t q165
noncomputable def t166 : Opd := .t q166
noncomputable def t167 : Opd := .t q167
noncomputable def t168 : Opd := .t q168
noncomputable def t169 : Opd := .t q169
noncomputable def t170 : Opd := .t q170
noncomputable def t171 : Opd := .t q171
noncomputable def t172 : Opd := .t q172
noncomputable def t173 : Opd := .t q173
noncomputable def t174 : Opd := .t q174
noncomputable def t175 : Opd := .t q175
noncomputable def t176 : Opd := .t q176
noncomputable def t177 : Opd := .t q177
noncomputable def t178 : Opd := .t q178
noncomputable def t179 : Opd := .t q179
noncomputable def t180 : Opd := .t q180
noncomputable def t181 : Opd := .t q181
noncomputable def t182 : Opd := .t q182
noncomputable def t183 : Opd := .t q183
noncomputable def t184 : Opd := .t q184
noncomputable def t185 : Opd := .t q185
noncomputable def t186 : Opd := .t q186
noncomputable def t187 : Opd := .t q187
noncomputable def t188 : Opd := .t q188
noncomputable def t189 : Opd := .t q189
noncomputable def t190 : Opd := .t q190
noncomputable def t191 : Opd := .t q191
noncomputable def t192 : Opd := .t q192
noncomputable def t193 : Opd := .t q193
noncomputable def t194 : Opd := .t q194
noncomputable def t195 : Opd := .t q195
noncomputable def t196 : Opd := .t q196
noncomputable def t197 : Opd := .t q197
noncomputable def t198 : Opd := .t q198
noncomputable def t199 : Opd := .t q199
noncomputable def t200 : Opd := .t q200
noncomputable def t201 : Opd := .t q201
noncomputable def t202 : Opd := .t q202
noncomputable def t203 : Opd := .t q203
noncomputable def t204 : Opd := .t q204
noncomputable def v0 : GV := valT
noncomputable def v1 : GV := gL v0
noncomputable def v2 : GV := gR v0
noncomputable def v3 : GV := gL v1
noncomputable def v4 : GV := gR v1
noncomputable def v5 : GV := gL v2
noncomputable def v6 : GV := gR v2
noncomputable def v7 : GV := gL v3
noncomputable def v8 : GV := gR v3
noncomputable def v9 : GV := gL v4
noncomputable def v10 : GV := gR v4
noncomputable def v11 : GV := gL v5
noncomputable def v12 : GV := gR v5
noncomputable def v13 : GV := gL v6
noncomputable def v14 : GV := gR v6
noncomputable def v15 : GV := gL v7
noncomputable def v16 : GV := gR v7
noncomputable def v17 : GV := gL v8
noncomputable def v18 : GV := gR v8
noncomputable def v19 : GV := gL v9
noncomputable def v20 : GV := gR v9
noncomputable def v21 : GV := gL v10
noncomputable def v22 : GV := gR v10
noncomputable def v23 : GV := gL v11
noncomputable def v24 : GV := gR v11
noncomputable def v25 : GV := gL v12
noncomputable def v26 : GV := gR v12
noncomputable def v27 : GV := gL v13
noncomputable def v28 : GV := gR v13
noncomputable def v29 : GV := gL v14
noncomputable def v30 : GV := gR v14
noncomputable def v31 : GV := gL v15
noncomputable def v32 : GV := gR v15
noncomputable def v33 : GV := gL v16
noncomputable def v34 : GV := gR v16
noncomputable def v35 : GV := gL v17
noncomputable def v36 : GV := gR v17
noncomputable def v37 : GV := gL v18
noncomputable def v38 : GV := gR v18
noncomputable def v39 : GV := gL v19
noncomputable def v40 : GV := gR v19
noncomputable def v41 : GV := gL v20
noncomputable def v42 : GV := gR v20
noncomputable def v43 : GV := gL v21
noncomputable def v44 : GV := gR v21
noncomputable def v45 : GV := gL v22
noncomputable def v46 : GV := gR v22
noncomputable def v47 : GV := gL v23
noncomputable def v48 : GV := gR v23
noncomputable def v49 : GV := gL v24
noncomputable def v50 : GV := gR v24
noncomputable def v51 : GV := gL v25
noncomputable def v52 : GV := gR v25
noncomputable def v53 : GV := gL v26
noncomputable def v54 : GV := gR v26
noncomputable def v55 : GV := gL v27
noncomputable def v56 : GV := gR v27
noncomputable def v57 : GV := gL v28
noncomputable def v58 : GV := gR v28
noncomputable def v59 : GV := gL v29
noncomputable def v60 : GV := gR v29
noncomputable def v61 : GV := gL v30
noncomputable def v62 : GV := gR v30
noncomputable def v63 : GV := gL v31
noncomputable def v64 : GV := gR v31
noncomputable def v65 : GV := gL v32
noncomputable def v66 : GV := gR v32
noncomputable def v67 : GV := gL v33
noncomputable def v68 : GV := gR v33
noncomputable def v69 : GV := gL v34
noncomputable def v70 : GV := gR v34
noncomputable def v71 : GV := gL v35
noncomputable def v72 : GV := gR v35
noncomputable def v73 : GV := gL v36
noncomputable def v74 : GV := gR v36
noncomputable def v75 : GV := gL v37
noncomputable def v76 : GV := gR v37
noncomputable def v77 : GV := gL v38
noncomputable def v78 : GV := gR v38
noncomputable def v79 : GV := gL v39
noncomputable def v80 : GV := gR v39
noncomputable def v81 : GV := gL v40
noncomputable def v82 : GV := gR v40
noncomputable def v83 : GV := gL v41
noncomputable def v84 : GV := gR v41
noncomputable def v85 : GV := gL v42
noncomputable def v86 : GV := gR v42
noncomputable def v87 : GV := gL v43
noncomputable def v88 : GV := gR v43
noncomputable def v89 : GV := gL v44
noncomputable def v90 : GV := gR v44
noncomputable def v91 : GV := gL v45
noncomputable def v92 : GV := gR v45
noncomputable def v93 : GV := gL v46
noncomputable def v94 : GV := gR v46
noncomputable def v95 : GV := gL v47
noncomputable def v96 : GV := gR v47
noncomputable def v97 : GV := gL v48
noncomputable def v98 : GV := gR v48
noncomputable def v99 : GV := gL v49
noncomputable def v100 : GV := gR v49
noncomputable def v101 : GV := gL v50
noncomputable def v102 : GV := gR v50
noncomputable def v103 : GV := gL v51
noncomputable def v104 : GV := gR v51
noncomputable def v105 : GV := gL v52
noncomputable def v106 : GV := gR v52
noncomputable def v107 : GV := gL v53
noncomputable def v108 : GV := gR v53
noncomputable def v109 : GV := gL v54
noncomputable def v110 : GV := gR v54
noncomputable def v111 : GV := gL v55
noncomputable def v112 : GV := gR v55
noncomputable def v113 : GV := gL v56
noncomputable def v114 : GV := gR v56
noncomputable def v115 : GV := gL v57
noncomputable def v116 : GV := gR v57
noncomputable def v117 : GV := gL v58
noncomputable def v118 : GV := gR v58
noncomputable def v119 : GV := gL v59
noncomputable def v120 : GV := gR v59
noncomputable def v121 : GV := gL v60
noncomputable def v122 : GV := gR v60
noncomputable def v123 : GV := gL v61
noncomputable def v124 : GV := gR v61
noncomputable def v125 : GV := gL v62
noncomputable def v126 : GV := gR v62
noncomputable def v127 : GV := gL v63
noncomputable def v128 : GV := gR v63
noncomputable def v129 : GV := gL v64
noncomputable def v130 : GV := gR v64
noncomputable def v131 : GV := gL v65
noncomputable def v132 : GV := gR v65
noncomputable def v133 : GV := gL v66
noncomputable def v134 : GV := gR v66
noncomputable def v135 : GV := gL v67
noncomputable def v136 : GV := gR v67
noncomputable def v137 : GV := gL v68
noncomputable def v138 : GV := gR v68
noncomputable def v139 : GV := gL v69
noncomputable def v140 : GV := gR v69
noncomputable def v141 : GV := gL v70
noncomputable def v142 : GV := gR v70
noncomputable def v143 : GV := gL v71
noncomputable def v144 : GV := gR v71
noncomputable def v145 : GV := gL v72
noncomputable def v146 : GV := gR v72
noncomputable def v147 : GV := gL v73
noncomputable def v148 : GV := gR v73
noncomputable def v149 : GV := gL v74
noncomputable def v150 : GV := gR v74
noncomputable def v151 : GV := gL v75
noncomputable def v152 : GV := gR v75
noncomputable def v153 : GV := gL v76
noncomputable def v154 : GV := gR v76
noncomputable def v155 : GV := gL v77
noncomputable def v156 : GV := gR v77
noncomputable def v157 : GV := gL v78
noncomputable def v158 : GV := gR v78
noncomputable def v159 : GV := gL v79
noncomputable def v160 : GV := gR v79
noncomputable def v161 : GV := gL v80
noncomputable def v162 : GV := gR v80
noncomputable def v163 : GV := gL v81
noncomputable def v164 : GV := gR v81
noncomputable def v165 : GV := gL v82
noncomputable def v166 : GV := gR v82
noncomputable def v167 : GV := gL v83
noncomputable def v168 : GV := gR v83
noncomputable def v169 : GV := gL v84
noncomputable def v170 : GV := gR v84
noncomputable def v171 : GV := gL v85
noncomputable def v172 : GV := gR v85
noncomputable def v173 : GV := gL v86
noncomputable def v174 : GV := gR v86
noncomputable def v175 : GV := gL v87
noncomputable def v176 : GV := gR v87
noncomputable def v177 : GV := gL v88
noncomputable def v178 : GV := gR v88
noncomputable def v179 : GV := gL v89
noncomputable def v180 : GV := gR v89
noncomputable def v181 : GV := gL v90
noncomputable def v182 : GV := gR v90
noncomputable def v183 : GV := gL v91
noncomputable def v184 : GV := gR v91
noncomputable def v185 : GV := gL v92
noncomputable def v186 : GV := gR v92
noncomputable def v187 : GV := gL v93
noncomputable def v188 : GV := gR v93
noncomputable def v189 : GV := gL v94
noncomputable def v190 : GV := gR v94
noncomputable def v191 : GV := gL v95
noncomputable def v192 : GV := gR v95
noncomputable def v193 : GV := gL v96
noncomputable def v194 : GV := gR v96
noncomputable def v195 : GV := gL v97
noncomputable def v196 : GV := gR v97
noncomputable def v197 : GV := gL v98
noncomputable def v198 : GV := gR v98
noncomputable def v199 : GV := gL v99
noncomputable def v200 : GV := gR v99
noncomputable def v201 : GV := gL v100
noncomputable def v202 : GV := gR v100
noncomputable def v203 : GV := gL v101
noncomputable def v204 : GV := gR v101
noncomputable def w0 : SV := sE
noncomputable def w1 : SV := sL w0
noncomputable def w2 : SV := sR w0
noncomputable def w3 : SV := sL w1
noncomputable def w4 : SV := sR w1
noncomputable def w5 : SV := sL w2
noncomputable def w6 : SV := sR w2
noncomputable def w7 : SV := sL w3
noncomputable def w8 : SV := sR w3
noncomputable def w9 : SV := sL w4
noncomputable def w10 : SV := sR w4
noncomputable def w11 : SV := sL w5
noncomputable def w12 : SV := sR w5
noncomputable def w13 : SV := sL w6
noncomputable def w14 : SV := sR w6
noncomputable def w15 : SV := sL w7
noncomputable def w16 : SV := sR w7
noncomputable def w17 : SV := sL w8
noncomputable def w18 : SV := sR w8
noncomputable def w19 : SV := sL w9
noncomputable def w20 : SV := sR w9
noncomputable def w21 : SV := sL w10
noncomputable def w22 : SV := sR w10
noncomputable def w23 : SV := sL w11
noncomputable def w24 : SV := sR w11
noncomputable def w25 : SV := sL w12
noncomputable def w26 : SV := sR w12
noncomputable def w27 : SV := sL w13
noncomputable def w28 : SV := sR w13
noncomputable def w29 : SV := sL w14
noncomputable def w30 : SV := sR w14
noncomputable def w31 : SV := sL w15
noncomputable def w32 : SV := sR w15
noncomputable def w33 : SV := sL w16
noncomputable def w34 : SV := sR w16
noncomputable def w35 : SV := sL w17
noncomputable def w36 : SV := sR w17
noncomputable def w37 : SV := sL w18
noncomputable def w38 : SV := sR w18
noncomputable def w39 : SV := sL w19
noncomputable def w40 : SV := sR w19
noncomputable def w41 : SV := sL w20
noncomputable def w42 : SV := sR w20
noncomputable def w43 : SV := sL w21
noncomputable def w44 : SV := sR w21
noncomputable def w45 : SV := sL w22
noncomputable def w46 : SV := sR w22
noncomputable def w47 : SV := sL w23
noncomputable def w48 : SV := sR w23
noncomputable def w49 : SV := sL w24
noncomputable def w50 : SV := sR w24
noncomputable def w51 : SV := sL w25
noncomputable def w52 : SV := sR w25
noncomputable def w53 : SV := sL w26
noncomputable def w54 : SV := sR w26
noncomputable def w55 : SV := sL w27
noncomputable def w56 : SV := sR w27
noncomputable def w57 : SV := sL w28
noncomputable def w58 : SV := sR w28
noncomputable def w59 : SV := sL w29
noncomputable def w60 : SV := sR w29
noncomputable def w61 : SV := sL w30
noncomputable def w62 : SV := sR w30
noncomputable def w63 : SV := sL w31
noncomputable def w64 : SV := sR w31
noncomputable def w65 : SV := sL w32
noncomputable def w66 : SV := sR w32
noncomputable def w67 : SV := sL w33
noncomputable def w68 : SV := sR w33
noncomputable def w69 : SV := sL w34
noncomputable def w70 : SV := sR w34
noncomputable def w71 : SV := sL w35
noncomputable def w72 : SV := sR w35
noncomputable def w73 : SV := sL w36
noncomputable def w74 : SV := sR w36
noncomputable def w75 : SV := sL w37
noncomputable def w76 : SV := sR w37
noncomputable def w77 : SV := sL w38
noncomputable def w78 : SV := sR w38
noncomputable def w79 : SV := sL w39
noncomputable def w80 : SV := sR w39
noncomputable def w81 : SV := sL w40
noncomputable def w82 : SV := sR w40
noncomputable def w83 : SV := sL w41
noncomputable def w84 : SV := sR w41
noncomputable def w85 : SV := sL w42
noncomputable def w86 : SV := sR w42
noncomputable def w87 : SV := sL w43
noncomputable def w88 : SV := sR w43
noncomputable def w89 : SV := sL w44
noncomputable def w90 : SV := sR w44
noncomputable def w91 : SV := sL w45
noncomputable def w92 : SV := sR w45
noncomputable def w93 : SV := sL w46
noncomputable def w94 : SV := sR w46
noncomputable def w95 : SV := sL w47
noncomputable def w96 : SV := sR w47
noncomputable def w97 : SV := sL w48
noncomputable def w98 : SV := sR w48
noncomputable def w99 : SV := sL w49
noncomputable def w100 : SV := sR w49
noncomputable def w101 : SV := sL w50
noncomputable def w102 : SV := sR w50
noncomputable def w103 : SV := sL w51
noncomputable def w104 : SV := sR w51
noncomputable def w105 : SV := sL w52
noncomputable def w106 : SV := sR w52
noncomputable def w107 : SV := sL w53
noncomputable def w108 : SV := sR w53
noncomputable def w109 : SV := sL w54
noncomputable def w110 : SV := sR w54
noncomputable def w111 : SV := sL w55
noncomputable def w112 : SV := sR w55
noncomputable def w113 : SV := sL w56
noncomputable def w114 : SV := sR w56
noncomputable def w115 : SV := sL w57
noncomputable def w116 : SV := sR w57
noncomputable def w117 : SV := sL w58
noncomputable def w118 : SV := sR w58
noncomputable def w119 : SV := sL w59
noncomputable def w120 : SV := sR w59
noncomputable def w121 : SV := sL w60
noncomputable def w122 : SV := sR w60
noncomputable def w123 : SV := sL w61
noncomputable def w124 : SV := sR w61
noncomputable def w125 : SV := sL w62
noncomputable def w126 : SV := sR w62
noncomputable def w127 : SV := sL w63
noncomputable def w128 : SV := sR w63
noncomputable def w129 : SV := sL w64
noncomputable def w130 : SV := sR w64
noncomputable def w131 : SV := sL w65
noncomputable def w132 : SV := sR w65
noncomputable def w133 : SV := sL w66
noncomputable def w134 : SV := sR w66
noncomputable def w135 : SV := sL w67
noncomputable def w136 : SV := sR w67
noncomputable def w137 : SV := sL w68
noncomputable def w138 : SV := sR w68
noncomputable def w139 : SV := sL w69
noncomputable def w140 : SV := sR w69
noncomputable def w141 : SV := sL w70
noncomputable def w142 : SV := sR w70
noncomputable def w143 : SV := sL w71
noncomputable def w144 : SV := sR w71
noncomputable def w145 : SV := sL w72
noncomputable def w146 : SV := sR w72
noncomputable def w147 : SV := sL w73
noncomputable def w148 : SV := sR w73
noncomputable def w149 : SV := sL w74
noncomputable def w150 : SV := sR w74
noncomputable def w151 : SV := sL w75
noncomputable def w152 : SV := sR w75
noncomputable def w153 : SV := sL w76
noncomputable def w154 : SV := sR w76
noncomputable def w155 : SV := sL w77
noncomputable def w156 : SV := sR w77
noncomputable def w157 : SV := sL w78
noncomputable def w158 : SV := sR w78
noncomputable def w159 : SV := sL w79
noncomputable def w160 : SV := sR w79
noncomputable def w161 : SV := sL w80
noncomputable def w162 : SV := sR w80
noncomputable def w163 : SV := sL w81
noncomputable def w164 : SV := sR w81
noncomputable def w165 : SV := sL w82
noncomputable def w166 : SV := sR w82
noncomputable def w167 : SV := sL w83
noncomputable def w168 : SV := sR w83
noncomputable def w169 : SV := sL w84
noncomputable def w170 : SV := sR w84
noncomputable def w171 : SV := sL w85
noncomputable def w172 : SV := sR w85
noncomputable def w173 : SV := sL w86
noncomputable def w174 : SV := sR w86
noncomputable def w175 : SV := sL w87
noncomputable def w176 : SV := sR w87
noncomputable def w177 : SV := sL w88
noncomputable def w178 : SV := sR w88
noncomputable def w179 : SV := sL w89
noncomputable def w180 : SV := sR w89
noncomputable def w181 : SV := sL w90
noncomputable def w182 : SV := sR w90
noncomputable def w183 : SV := sL w91
noncomputable def w184 : SV := sR w91
noncomputable def w185 : SV := sL w92
noncomputable def w186 : SV := sR w92
noncomputable def w187 : SV := sL w93
noncomputable def w188 : SV := sR w93
noncomputable def w189 : SV := sL w94
noncomputable def w190 : SV := sR w94
noncomputable def w191 : SV := sL w95
noncomputable def w192 : SV := sR w95
noncomputable def w193 : SV := sL w96
noncomputable def w194 : SV := sR w96
noncomputable def w195 : SV := sL w97
noncomputable def w196 : SV := sR w97
noncomputable def w197 : SV := sL w98
noncomputable def w198 : SV := sR w98
noncomputable def w199 : SV := sL w99
noncomputable def w200 : SV := sR w99
noncomputable def w201 : SV := sL w100
noncomputable def w202 : SV := sR w100
noncomputable def w203 : SV := sL w101
noncomputable def w204 : SV := sR w101
noncomputable def G5 : G := ⟨(nat_lit 59), Tr.fill undefV (nat_lit 59) (nat_lit 59), (rOne v0), (kSeq (kPu (eMv (gC (.b false))) w0 kEnd)
 (kSeq (kPu (eGen (.build [(n6 (nat_lit 0)), (.s []), (n6 (nat_lit 0)), (n6 (nat_lit 0)), (.b false), (n6 (nat_lit 0)), (n6 (nat_lit 0)), (.s []), (.b false), (n6 (nat_lit 0)), (n6 (nat_lit 0)), (n6 (nat_lit 0)), (.s []), (.b false), (n6 (nat_lit 0)), .sl0, .sl0, (n6 (nat_lit 0)), (n6 (nat_lit 0)), (n6 (nat_lit 0)), .sl0, (n6 (nat_lit 0)), (.s [])] [((nat_lit 0), (nat_lit 1), (.c (n6 (nat_lit 1)))), ((nat_lit 1), (nat_lit 1), (.c (.s [(nat_lit 99), (nat_lit 48), (nat_lit 110), (nat_lit 48)]))), ((nat_lit 2), (nat_lit 1), (.c (n6 (nat_lit 3))))])) w9 (kAl (eA (.alloc [(n6 (nat_lit 0)), (.s []), (n6 (nat_lit 0)), (n6 (nat_lit 0)), (.b false), (n6 (nat_lit 0)), (n6 (nat_lit 0)), (.s []), (.b false), (n6 (nat_lit 0)), (n6 (nat_lit 0)), (n6 (nat_lit 0)), (.s []), (.b false), (n6 (nat_lit 0)), .sl0, .sl0, (n6 (nat_lit 0)), (n6 (nat_lit 0)), (n6 (nat_lit 0)), .sl0, (n6 (nat_lit 0)), (.s [])] (nat_lit 40))) w1 (kHv (eStN (nat_lit 23) v1 v9) s0 kEnd)))
 (kSeq (kPu (eGen (.build [(n6 (nat_lit 0)), (n6 (nat_lit 0)), (n6 (nat_lit 0))] [((nat_lit 0), (nat_lit 1), (.c (n6 (nat_lit 1)))), ((nat_lit 1), (nat_lit 1), (.c (n6 (nat_lit 1))))])) w10 (kPu (eGen (.build [(n6 (nat_lit 0)), (.s []), (n6 (nat_lit 0)), (n6 (nat_lit 0)), (.b false), (n6 (nat_lit 0)), (n6 (nat_lit 0)), (.s []), (.b false), (n6 (nat_lit 0)), (n6 (nat_lit 0)), (n6 (nat_lit 0)), (.s []), (.b false), (n6 (nat_lit 0)), .sl0, .sl0, (n6 (nat_lit 0)), (n6 (nat_lit 0)), (n6 (nat_lit 0)), .sl0, (n6 (nat_lit 0)), (.s [])] [((nat_lit 0), (nat_lit 1), (.c (n6 (nat_lit 2)))), ((nat_lit 1), (nat_lit 1), (.c (.s [(nat_lit 99), (nat_lit 48), (nat_lit 110), (nat_lit 48)]))), ((nat_lit 17), (nat_lit 3), t10)])) w11 (kAl (eA (.alloc [(n6 (nat_lit 0)), (.s []), (n6 (nat_lit 0)), (n6 (nat_lit 0)), (.b false), (n6 (nat_lit 0)), (n6 (nat_lit 0)), (.s []), (.b false), (n6 (nat_lit 0)), (n6 (nat_lit 0)), (n6 (nat_lit 0)), (.s []), (.b false), (n6 (nat_lit 0)), .sl0, .sl0, (n6 (nat_lit 0)), (n6 (nat_lit 0)), (n6 (nat_lit 0)), .sl0, (n6 (nat_lit 0)), (.s [])] (nat_lit 40))) w2 (kHv (eStN (nat_lit 23) v2 v11) s0 kEnd))))
 (kSeq (kRd (eLdA (nat_lit 23) v1) w13 (kRd (eLdA (nat_lit 23) v2) w14 (kCall q10 [v13, v14, (gC (.b true))] w15 (kPu (eMv v15) w12 (kPu (eExt (nat_lit 0) v12) w16 (kPu (eExt (nat_lit 1) v12) w17 (kAl (eA (.alloc [(n6 (nat_lit 0)), (.s []), (n6 (nat_lit 0)), (n6 (nat_lit 0)), (.b false), (n6 (nat_lit 0)), (n6 (nat_lit 0)), (.s []), (.b false), (n6 (nat_lit 0)), (n6 (nat_lit 0)), (n6 (nat_lit 0)), (.s []), (.b false), (n6 (nat_lit 0)), .sl0, .sl0, (n6 (nat_lit 0)), (n6 (nat_lit 0)), (n6 (nat_lit 0)), .sl0, (n6 (nat_lit 0)), (.s [])] (nat_lit 40))) w3 (kHv (eStN (nat_lit 23) v3 v16) s0 (kPu (eMv v17) w4 kEnd)))))))))
 (kSeq (kRd (eLdA (nat_lit 23) v1) w19 (kPu (eGen (.build [(n6 (nat_lit 0)), (.s []), (n6 (nat_lit 0)), (n6 (nat_lit 0)), (.b false), (n6 (nat_lit 0)), (n6 (nat_lit 0)), (.s []), (.b false), (n6 (nat_lit 0)), (n6 (nat_lit 0)), (n6 (nat_lit 0)), (.s []), (.b false), (n6 (nat_lit 0)), .sl0, .sl0, (n6 (nat_lit 0)), (n6 (nat_lit 0)), (n6 (nat_lit 0)), .sl0, (n6 (nat_lit 0)), (.s [])] [((nat_lit 0), (nat_lit 1), (.c (n6 (nat_lit 7)))), ((nat_lit 1), (nat_lit 1), (.c (.s [(nat_lit 99), (nat_lit 48), (nat_lit 110), (nat_lit 48)])))])) w20 (kCall q10 [v19, v20, (gC (.b true))] w21 (kPu (eMv v21) w18 (kPu (eExt (nat_lit 0) v18) w22 (kPu (eExt (nat_lit 1) v18) w23 (kAl (eA (.alloc [(n6 (nat_lit 0)), (.s []), (n6 (nat_lit 0)), (n6 (nat_lit 0)), (.b false), (n6 (nat_lit 0)), (n6 (nat_lit 0)), (.s []), (.b false), (n6 (nat_lit 0)), (n6 (nat_lit 0)), (n6 (nat_lit 0)), (.s []), (.b false), (n6 (nat_lit 0)), .sl0, .sl0, (n6 (nat_lit 0)), (n6 (nat_lit 0)), (n6 (nat_lit 0)), .sl0, (n6 (nat_lit 0)), (.s [])] (nat_lit 40))) w5 (kHv (eStN (nat_lit 23) v5 v22) s0 (kPu (eMv v23) w6 kEnd)))))))))
 (kSeq (kRd (eLdA (nat_lit 23) v1) w25 (kAl (eA (.buildSl [(n6 (nat_lit 0)), (.s []), (n6 (nat_lit 0)), (n6 (nat_lit 0)), (.b false), (n6 (nat_lit 0)), (n6 (nat_lit 0)), (.s []), (.b false), (n6 (nat_lit 0)), (n6 (nat_lit 0)), (n6 (nat_lit 0)), (.s []), (.b false), (n6 (nat_lit 0)), .sl0, .sl0, (n6 (nat_lit 0)), (n6 (nat_lit 0)), (n6 (nat_lit 0)), .sl0, (n6 (nat_lit 0)), (.s [])] (nat_lit 40) (nat_lit 23) (nat_lit 1) [((nat_lit 0), (nat_lit 23), t25)])) w26 (kRd (eLdA (nat_lit 23) v2) w27 (kAl (eA (.buildSl [(n6 (nat_lit 0)), (.s []), (n6 (nat_lit 0)), (n6 (nat_lit 0)), (.b false), (n6 (nat_lit 0)), (n6 (nat_lit 0)), (.s []), (.b false), (n6 (nat_lit 0)), (n6 (nat_lit 0)), (n6 (nat_lit 0)), (.s []), (.b false), (n6 (nat_lit 0)), .sl0, .sl0, (n6 (nat_lit 0)), (n6 (nat_lit 0)), (n6 (nat_lit 0)), .sl0, (n6 (nat_lit 0)), (.s [])] (nat_lit 40) (nat_lit 23) (nat_lit 1) [((nat_lit 0), (nat_lit 23), t27)])) w28 (kCall q8 [v26, v28, (gC (.b true))] w29 (kPu (eMv v29) w24 (kPu (eExt (nat_lit 0) v24) w30 (kPu (eExt (nat_lit 1) v24) w31 (kPu (eMv v30) w7 (kPu (eMv v31) w8 kEnd))))))))))
 (kSeq (kPu (eMv v4) w32 (kPu (eMv v32) w33 (kGd v33 true (kPu (eFieldA (nat_lit 2) v3) w34) w34 (kGd v33 true (kRd (eLd1 v34) w35) w35 (kGd v33 true (kPu (eBin fEql .eql (nat_lit 0) v35 (gC (n6 (nat_lit 4)))) w36) w36 (kPu (eGen (.pick t33 t36 (.c (.b false)))) w37 (kPu (eMv v37) w38 (kGd v38 true (kPu (eMv v6) w39) w39 (kGd v38 true (kPu (eGen (.un .not t39)) w40) w40 (kPu (eGen (.pick t38 t40 (.c (.b false)))) w41 (kPu (eMv v41) w42 (kGd v42 true (kPu (eMv v7) w43) w43 (kGd v42 true (kPu (eLenSl v43) w44) w44 (kGd v42 true (kPu (eBin fEql .eql (nat_lit 0) v44 (gC (n6 (nat_lit 1)))) w45) w45 (kPu (eGen (.pick t42 t45 (.c (.b false)))) w46 (kPu (eMv v46) w47 (kGd v47 true (kPu (eMv v8) w48) w48 (kGd v47 true (kPu (eLenSl v48) w49) w49 (kGd v47 true (kPu (eBin fEql .eql (nat_lit 0) v49 (gC (n6 (nat_lit 1)))) w50) w50 (kPu (eGen (.pick t47 t50 (.c (.b false)))) w51 (kPu (eMv v51) w52 (kGd v52 true (kPu (eMv v7) w53) w53 (kGd v52 true (kPu (eIdxA (nat_lit 23) v53 (gC (n6 (nat_lit 0)))) w54) w54 (kGd v52 true (kPu (eFieldA (nat_lit 2) v54) w55) w55 (kGd v52 true (kRd (eLd1 v55) w56) w56 (kGd v52 true (kPu (eBin fEql .eql (nat_lit 0) v56 (gC (n6 (nat_lit 4)))) w57) w57 (kPu (eGen (.pick t52 t57 (.c (.b false)))) w58 (kPu (eMv v58) w0 kEnd))))))))))))))))))))))))))))
 kRt))))))), none⟩
noncomputable def G8 : G := ⟨(nat_lit 67), Tr.fill undefV (nat_lit 67) (nat_lit 67), (rGen [(.t q6), (.t q7)]), (kSeq (kPu (eMv (gC .sl0)) w6 (kPu (eMv (gC .sl0)) w7 kEnd))
 (kSeq (kPu (eMv (gC .sl0)) w8 kEnd)
 (kSeq (kPu (eMv v1) w17 (kHv (eApp (nat_lit 23) (nat_lit 264) (nat_lit 40) (gC .sl0) v17) w18 (kPu (eMv v18) w1 kEnd)))
 (kSeq (kSeq (kPu (eMv v0) w19 (kPu (eLenSl v19) w20 (kPu (eMv (gC (n6 (nat_lit 0)))) w21 kEnd)))
 (kBlock (nat_lit 0) (kLoop (kSeq (kPu (eBin fLss .lss (nat_lit 0) v21 v20) w22 kEnd)
 (kSeq (kCond v22 kEnd (kExit (nat_lit 0)))
 (kSeq (kBlock (nat_lit 1) (kSeq (kPu (eIdxA (nat_lit 23) v19 v21) w23 (kRd (eLdA (nat_lit 23) v23) w24 (kAl (eA (.alloc [(n6 (nat_lit 0)), (.s []), (n6 (nat_lit 0)), (n6 (nat_lit 0)), (.b false), (n6 (nat_lit 0)), (n6 (nat_lit 0)), (.s []), (.b false), (n6 (nat_lit 0)), (n6 (nat_lit 0)), (n6 (nat_lit 0)), (.s []), (.b false), (n6 (nat_lit 0)), .sl0, .sl0, (n6 (nat_lit 0)), (n6 (nat_lit 0)), (n6 (nat_lit 0)), .sl0, (n6 (nat_lit 0)), (.s [])] (nat_lit 40))) w10 (kHv (eStN (nat_lit 23) v10 v24) s0 kEnd))))
 (kSeq (kPu (eMv (gC .sl0)) w11 kEnd)
 (kSeq (kPu (eMv (gC (.b true))) w12 kEnd)
 (kSeq (kSeq (kPu (eMv v1) w25 (kPu (eLenSl v25) w26 (kPu (eMv (gC (n6 (nat_lit 0)))) w27 kEnd)))
 (kBlock (nat_lit 2) (kLoop (kSeq (kPu (eBin fLss .lss (nat_lit 0) v27 v26) w28 kEnd)
 (kSeq (kCond v28 kEnd (kExit (nat_lit 2)))
 (kSeq (kBlock (nat_lit 3) (kSeq (kPu (eIdxA (nat_lit 23) v25 v27) w29 (kRd (eLdA (nat_lit 23) v29) w30 (kAl (eA (.alloc [(n6 (nat_lit 0)), (.s []), (n6 (nat_lit 0)), (n6 (nat_lit 0)), (.b false), (n6 (nat_lit 0)), (n6 (nat_lit 0)), (.s []), (.b false), (n6 (nat_lit 0)), (n6 (nat_lit 0)), (n6 (nat_lit 0)), (.s []), (.b false), (n6 (nat_lit 0)), .sl0, .sl0, (n6 (nat_lit 0)), (n6 (nat_lit 0)), (n6 (nat_lit 0)), .sl0, (n6 (nat_lit 0)), (.s [])] (nat_lit 40))) w14 (kHv (eStN (nat_lit 23) v14 v30) s0 kEnd))))
 (kSeq (kSeq (kPu (eMv v12) w31 (kPu (eGen (.un .not t31)) w32 kEnd))
 (kCond v32 (kSeq (kPu (eMv v11) w33 (kRd (eLdA (nat_lit 23) v14) w34 (kAl (eA (.buildSl [(n6 (nat_lit 0)), (.s []), (n6 (nat_lit 0)), (n6 (nat_lit 0)), (.b false), (n6 (nat_lit 0)), (n6 (nat_lit 0)), (.s []), (.b false), (n6 (nat_lit 0)), (n6 (nat_lit 0)), (n6 (nat_lit 0)), (.s []), (.b false), (n6 (nat_lit 0)), .sl0, .sl0, (n6 (nat_lit 0)), (n6 (nat_lit 0)), (n6 (nat_lit 0)), .sl0, (n6 (nat_lit 0)), (.s [])] (nat_lit 40) (nat_lit 23) (nat_lit 1) [((nat_lit 0), (nat_lit 23), t34)])) w35 (kHv (eApp (nat_lit 23) (nat_lit 264) (nat_lit 40) v33 v35) w36 (kPu (eMv v36) w11 kEnd)))))
 (kExit (nat_lit 3))) kEnd))
 (kSeq (kRd (eLdA (nat_lit 23) v14) w38 (kRd (eLdA (nat_lit 23) v10) w39 (kPu (eMv v2) w40 (kPu (eGen (.un .not t40)) w41 (kCall q10 [v38, v39, v41] w42 (kPu (eMv v42) w37 (kPu (eExt (nat_lit 0) v37) w43 (kPu (eExt (nat_lit 1) v37) w44 (kAl (eA (.alloc [(n6 (nat_lit 0)), (.s []), (n6 (nat_lit 0)), (n6 (nat_lit 0)), (.b false), (n6 (nat_lit 0)), (n6 (nat_lit 0)), (.s []), (.b false), (n6 (nat_lit 0)), (n6 (nat_lit 0)), (n6 (nat_lit 0)), (.s []), (.b false), (n6 (nat_lit 0)), .sl0, .sl0, (n6 (nat_lit 0)), (n6 (nat_lit 0)), (n6 (nat_lit 0)), .sl0, (n6 (nat_lit 0)), (.s [])] (nat_lit 40))) w15 (kHv (eStN (nat_lit 23) v15 v43) s0 (kPu (eMv v44) w16 kEnd)))))))))))
 (kSeq (kRd (eLdA (nat_lit 23) v10) w46 (kRd (eLdA (nat_lit 23) v14) w47 (kPu (eMv v2) w48 (kCall q10 [v46, v47, v48] w49 (kPu (eMv v49) w45 (kPu (eExt (nat_lit 0) v45) w50 (kPu (eExt (nat_lit 1) v45) w51 (kHv (eStN (nat_lit 23) v10 v50) s0 (kPu (eMv v51) w12 kEnd)))))))))
 (kSeq (kPu (eMv v16) w52 kEnd)
 (kCond v52 (kPu (eMv v11) w53 (kRd (eLdA (nat_lit 23) v15) w54 (kAl (eA (.buildSl [(n6 (nat_lit 0)), (.s []), (n6 (nat_lit 0)), (n6 (nat_lit 0)), (.b false), (n6 (nat_lit 0)), (n6 (nat_lit 0)), (.s []), (.b false), (n6 (nat_lit 0)), (n6 (nat_lit 0)), (n6 (nat_lit 0)), (.s []), (.b false), (n6 (nat_lit 0)), .sl0, .sl0, (n6 (nat_lit 0)), (n6 (nat_lit 0)), (n6 (nat_lit 0)), .sl0, (n6 (nat_lit 0)), (.s [])] (nat_lit 40) (nat_lit 23) (nat_lit 1) [((nat_lit 0), (nat_lit 23), t54)])) w55 (kHv (eApp (nat_lit 23) (nat_lit 264) (nat_lit 40) v53 v55) w56 (kPu (eMv v56) w11 kEnd))))) kEnd)))))))
 (kPu (eBin fAdd .add (nat_lit 0) v27 (gC (n6 (nat_lit 1)))) w57 (kPu (eMv v57) w27 kEnd))))))))
 (kSeq (kSeq (kPu (eMv v12) w58 kEnd)
 (kCond v58 (kPu (eMv v8) w59 (kRd (eLdA (nat_lit 23) v10) w60 (kAl (eA (.buildSl [(n6 (nat_lit 0)), (.s []), (n6 (nat_lit 0)), (n6 (nat_lit 0)), (.b false), (n6 (nat_lit 0)), (n6 (nat_lit 0)), (.s []), (.b false), (n6 (nat_lit 0)), (n6 (nat_lit 0)), (n6 (nat_lit 0)), (.s []), (.b false), (n6 (nat_lit 0)), .sl0, .sl0, (n6 (nat_lit 0)), (n6 (nat_lit 0)), (n6 (nat_lit 0)), .sl0, (n6 (nat_lit 0)), (.s [])] (nat_lit 40) (nat_lit 23) (nat_lit 1) [((nat_lit 0), (nat_lit 23), t60)])) w61 (kHv (eApp (nat_lit 23) (nat_lit 264) (nat_lit 40) v59 v61) w62 (kPu (eMv v62) w8 kEnd))))) kEnd))
 (kPu (eMv v11) w63 (kPu (eMv v63) w1 kEnd))))))))
 (kPu (eBin fAdd .add (nat_lit 0) v21 (gC (n6 (nat_lit 1)))) w64 (kPu (eMv v64) w21 kEnd))))))))
 (kSeq (kPu (eMv v8) w65 (kPu (eMv v1) w66 (kPu (eMv v65) w6 (kPu (eMv v66) w7 kEnd))))
 kRt))))), none⟩
noncomputable def G10 : G := ⟨(nat_lit 39), Tr.fill undefV (nat_lit 39) (nat_lit 39), (rGen [(.c q6 true (nat_lit 23)), (.t q7)]), (kSeq (kAl (eA (.box t0 (nat_lit 40))) w3 (kAl (eA (.box t1 (nat_lit 40))) w4 (kAl (eA (.alloc [(n6 (nat_lit 0)), (.s []), (n6 (nat_lit 0)), (n6 (nat_lit 0)), (.b false), (n6 (nat_lit 0)), (n6 (nat_lit 0)), (.s []), (.b false), (n6 (nat_lit 0)), (n6 (nat_lit 0)), (n6 (nat_lit 0)), (.s []), (.b false), (n6 (nat_lit 0)), .sl0, .sl0, (n6 (nat_lit 0)), (n6 (nat_lit 0)), (n6 (nat_lit 0)), .sl0, (n6 (nat_lit 0)), (.s [])] (nat_lit 40))) w6 (kPu (eMv (gC (.b false))) w7 kEnd))))
 (kSeq (kSeq (kRd (eLdA (nat_lit 23) v3) w10 (kCall q14 [v10] w11 (kPu (eGen (.un .not t11)) w12 (kPu (eMv v12) w13 (kGd v13 false (kRd (eLdA (nat_lit 23) v4) w14) w14 (kGd v13 false (kCall q14 [v14] w15) w15 (kGd v13 false (kPu (eGen (.un .not t15)) w16) w16 (kPu (eGen (.pick t13 (.c (.b true)) t16)) w17 kEnd))))))))
 (kCond v17 (kSeq (kPu (eGen (.build [(n6 (nat_lit 0)), (.s []), (n6 (nat_lit 0)), (n6 (nat_lit 0)), (.b false), (n6 (nat_lit 0)), (n6 (nat_lit 0)), (.s []), (.b false), (n6 (nat_lit 0)), (n6 (nat_lit 0)), (n6 (nat_lit 0)), (.s []), (.b false), (n6 (nat_lit 0)), .sl0, .sl0, (n6 (nat_lit 0)), (n6 (nat_lit 0)), (n6 (nat_lit 0)), .sl0, (n6 (nat_lit 0)), (.s [])] [])) w18 (kHv (eStN (nat_lit 23) v6 v18) s0 (kPu (eMv (gC (.b false))) w7 kEnd)))
 kRt) kEnd))
 (kSeq (kRd (eLdA (nat_lit 23) v3) w20 (kAlD (eA (.buildSl [(n6 (nat_lit 0)), (.s []), (n6 (nat_lit 0)), (n6 (nat_lit 0)), (.b false), (n6 (nat_lit 0)), (n6 (nat_lit 0)), (.s []), (.b false), (n6 (nat_lit 0)), (n6 (nat_lit 0)), (n6 (nat_lit 0)), (.s []), (.b false), (n6 (nat_lit 0)), .sl0, .sl0, (n6 (nat_lit 0)), (n6 (nat_lit 0)), (n6 (nat_lit 0)), .sl0, (n6 (nat_lit 0)), (.s [])] (nat_lit 40) (nat_lit 23) (nat_lit 1) [((nat_lit 0), (nat_lit 23), t20)])) (memJ q21) w21 (kItG ⟨⟨(some q25), (.rd (.load true (nat_lit 23) t4)), none⟩, [q21], []⟩ (kItG ⟨⟨(some q26), (.pu (.mv t2)), none⟩, [q21], []⟩ (kItG ⟨⟨(some q8), (.al (.alloc [(n6 (nat_lit 0)), (.s []), (n6 (nat_lit 0)), (n6 (nat_lit 0)), (.b false), (n6 (nat_lit 0)), (n6 (nat_lit 0)), (.s []), (.b false), (n6 (nat_lit 0)), (n6 (nat_lit 0)), (n6 (nat_lit 0)), (.s []), (.b false), (n6 (nat_lit 0)), .sl0, .sl0, (n6 (nat_lit 0)), (n6 (nat_lit 0)), (n6 (nat_lit 0)), .sl0, (n6 (nat_lit 0)), (.s [])] (nat_lit 40))), none⟩, [q21], []⟩ (kItG ⟨⟨(some q22), (.hv (.call q16 [t21])), none⟩, [q8], [(⟨(some q25), (.rd (.load true (nat_lit 23) t4)), none⟩, [q8, q21])]⟩ (kItG ⟨⟨(some q23), (.pu (.idxASl (nat_lit 23) t22 (.c (n6 (nat_lit 0))))), none⟩, [q8], []⟩ (kItG ⟨⟨(some q24), (.rd (.load true (nat_lit 23) t23)), none⟩, [q8], []⟩ (kItG ⟨⟨(some q27), (.hv (.call q15 [t24, t25, t26])), none⟩, [q8], []⟩ (kItG ⟨⟨(some q19), (.pu (.mv t27)), none⟩, [q8], []⟩ (kItG ⟨⟨(some q28), (.pu (.extract t19 (nat_lit 0))), none⟩, [q8], []⟩ (kItG ⟨⟨(some q29), (.pu (.extract t19 (nat_lit 1))), none⟩, [q8], []⟩ (kHv (eStN (nat_lit 23) v8 v28) s0 (kPu (eMv v29) w9 kEnd))))))))))))))
 (kSeq (kSeq (kPu (eMv v9) w30 (kPu (eGen (.un .not t30)) w31 (kPu (eMv v31) w32 (kGd v32 false (kRd (eLdA (nat_lit 23) v8) w33) w33 (kGd v32 false (kCall q14 [v33] w34) w34 (kGd v32 false (kPu (eGen (.un .not t34)) w35) w35 (kPu (eGen (.pick t32 (.c (.b true)) t35)) w36 kEnd)))))))
 (kCond v36 (kSeq (kPu (eGen (.build [(n6 (nat_lit 0)), (.s []), (n6 (nat_lit 0)), (n6 (nat_lit 0)), (.b false), (n6 (nat_lit 0)), (n6 (nat_lit 0)), (.s []), (.b false), (n6 (nat_lit 0)), (n6 (nat_lit 0)), (n6 (nat_lit 0)), (.s []), (.b false), (n6 (nat_lit 0)), .sl0, .sl0, (n6 (nat_lit 0)), (n6 (nat_lit 0)), (n6 (nat_lit 0)), .sl0, (n6 (nat_lit 0)), (.s [])] [])) w37 (kHv (eStN (nat_lit 23) v6 v37) s0 (kPu (eMv (gC (.b false))) w7 kEnd)))
 kRt) kEnd))
 (kSeq (kRd (eLdA (nat_lit 23) v8) w38 (kHv (eStN (nat_lit 23) v6 v38) s0 (kPu (eMv (gC (.b true))) w7 kEnd)))
 kRt))))), none⟩
noncomputable def G14 : G := ⟨(nat_lit 98), Tr.fill undefV (nat_lit 98) (nat_lit 98), (rOne v2), (kSeq (kAl (eA (.box t0 (nat_lit 40))) w1 (kPu (eMv (gC (.b false))) w2 kEnd))
 (kSeq (kPu (eFieldA (nat_lit 0) v1) w5 (kRd (eLd1 v5) w6 (kPu (eFieldA (nat_lit 1) v1) w7 (kRd (eLd1 v7) w8 (kPu (eGen (.build [(n6 (nat_lit 0)), (.s []), (n6 (nat_lit 0)), (n6 (nat_lit 0)), (.b false), (n6 (nat_lit 0)), (n6 (nat_lit 0)), (.s []), (.b false), (n6 (nat_lit 0)), (n6 (nat_lit 0)), (n6 (nat_lit 0)), (.s []), (.b false), (n6 (nat_lit 0)), .sl0, .sl0, (n6 (nat_lit 0)), (n6 (nat_lit 0)), (n6 (nat_lit 0)), .sl0, (n6 (nat_lit 0)), (.s [])] [((nat_lit 0), (nat_lit 1), t6), ((nat_lit 1), (nat_lit 1), t8)])) w9 (kAl (eA (.alloc [(n6 (nat_lit 0)), (.s []), (n6 (nat_lit 0)), (n6 (nat_lit 0)), (.b false), (n6 (nat_lit 0)), (n6 (nat_lit 0)), (.s []), (.b false), (n6 (nat_lit 0)), (n6 (nat_lit 0)), (n6 (nat_lit 0)), (.s []), (.b false), (n6 (nat_lit 0)), .sl0, .sl0, (n6 (nat_lit 0)), (n6 (nat_lit 0)), (n6 (nat_lit 0)), .sl0, (n6 (nat_lit 0)), (.s [])] (nat_lit 40))) w3 (kHv (eStN (nat_lit 23) v3 v9) s0 kEnd)))))))
 (kSeq (kPu (eFieldA (nat_lit 1) v1) w10 (kRd (eLd1 v10) w11 (kCall q18 [v11] w12 (kPu (eMv v12) w4 kEnd))))
 (kSeq (kSeq (kPu (eFieldA (nat_lit 0) v1) w13 (kRd (eLd1 v13) w14 kEnd))
 (kBlock (nat_lit 0) (kSeq (kPu (eBin fEql .eql (nat_lit 0) v14 (gC (n6 (nat_lit 1)))) w16 (kPu (eMv v16) w15 kEnd))
 (kCond v15 (kSeq (kPu (eFieldA (nat_lit 2) v1) w17 (kRd (eLd1 v17) w18 (kPu (eFieldA (nat_lit 3) v1) w19 (kRd (eLd1 v19) w20 (kPu (eFieldA (nat_lit 4) v1) w21 (kRd (eLdA (nat_lit 13) v21) w22 (kPu (eFieldA (nat_lit 2) v3) w23 (kItG ⟨⟨none, (.hv (.store (nat_lit 1) t23 t18)), none⟩, [], [(⟨(some q22), (.rd (.load true (nat_lit 13) t21)), none⟩, []), (⟨(some q20), (.rd (.load false (nat_lit 1) t19)), none⟩, [])]⟩ (kPu (eFieldA (nat_lit 3) v3) w24 (kItG ⟨⟨none, (.hv (.store (nat_lit 1) t24 t20)), none⟩, [], [(⟨(some q22), (.rd (.load true (nat_lit 13) t21)), none⟩, [])]⟩ (kPu (eFieldA (nat_lit 4) v3) w25 (kHv (eStN (nat_lit 13) v25 v22) s0 kEnd))))))))))))
 (kPu (eMv v4) w26 (kPu (eMv v26) w27 (kGd v27 true (kPu (eFieldA (nat_lit 2) v1) w28) w28 (kGd v27 true (kRd (eLd1 v28) w29) w29 (kGd v27 true (kCall q19 [v29] w30) w30 (kPu (eGen (.pick t27 t30 (.c (.b false)))) w31 (kPu (eMv v31) w32 (kGd v32 true (kPu (eFieldA (nat_lit 3) v1) w33) w33 (kGd v32 true (kRd (eLd1 v33) w34) w34 (kGd v32 true (kCall q19 [v34] w35) w35 (kPu (eGen (.pick t32 t35 (.c (.b false)))) w36 (kPu (eMv v36) w37 (kGd v37 true (kPu (eFieldA (nat_lit 4) v1) w38) w38 (kGd v37 true (kRd (eLdA (nat_lit 13) v38) w39) w39 (kGd v37 true (kCall q20 [v39] w40) w40 (kPu (eGen (.pick t37 t40 (.c (.b false)))) w41 (kPu (eMv v41) w4 kEnd)))))))))))))))))) (kSeq (kSeq (kPu (eBin fEql .eql (nat_lit 0) v14 (gC (n6 (nat_lit 2)))) w43 (kPu (eMv v43) w42 kEnd))
 (kCond v42 kEnd (kPu (eBin fEql .eql (nat_lit 0) v14 (gC (n6 (nat_lit 3)))) w44 (kPu (eMv v44) w42 kEnd))))
 (kCond v42 (kSeq (kPu (eFieldA (nat_lit 17) v1) w45 (kRd (eLdA (nat_lit 3) v45) w46 (kPu (eFieldA (nat_lit 17) v3) w47 (kHv (eStN (nat_lit 3) v47 v46) s0 kEnd))))
 (kPu (eMv v4) w48 (kPu (eMv v48) w49 (kGd v49 true (kPu (eFieldA (nat_lit 17) v1) w50) w50 (kGd v49 true (kRd (eLdA (nat_lit 3) v50) w51) w51 (kGd v49 true (kCall q21 [v51] w52) w52 (kPu (eGen (.pick t49 t52 (.c (.b false)))) w53 (kPu (eMv v53) w4 kEnd)))))))) (kSeq (kPu (eBin fEql .eql (nat_lit 0) v14 (gC (n6 (nat_lit 4)))) w55 (kPu (eMv v55) w54 kEnd))
 (kCond v54 (kSeq (kPu (eFieldA (nat_lit 20) v1) w56 (kRd (eLd1 v56) w57 (kPu (eFieldA (nat_lit 21) v1) w58 (kRd (eLd1 v58) w59 (kPu (eFieldA (nat_lit 20) v3) w60 (kItG ⟨⟨none, (.hv (.store (nat_lit 1) t60 t57)), none⟩, [], [(⟨(some q59), (.rd (.load false (nat_lit 1) t58)), none⟩, [])]⟩ (kPu (eFieldA (nat_lit 21) v3) w61 (kHv (eSt1 v61 v59) s0 kEnd))))))))
 (kPu (eMv v4) w62 (kPu (eMv v62) w63 (kGd v63 true (kPu (eFieldA (nat_lit 20) v1) w64) w64 (kGd v63 true (kRd (eLd1 v64) w65) w65 (kGd v63 true (kCall q22 [v65] w66) w66 (kPu (eGen (.pick t63 t66 (.c (.b false)))) w67 (kPu (eMv v67) w68 (kGd v68 true (kPu (eFieldA (nat_lit 21) v1) w69) w69 (kGd v68 true (kRd (eLd1 v69) w70) w70 (kGd v68 true (kPu (eBin fGeq .geq (nat_lit 0) v70 (gC (n6 (nat_lit 0)))) w71) w71 (kPu (eGen (.pick t68 t71 (.c (.b false)))) w72 (kPu (eMv v72) w73 (kGd v73 true (kPu (eFieldA (nat_lit 21) v1) w74) w74 (kGd v73 true (kRd (eLd1 v74) w75) w75 (kGd v73 true (kPu (eBin fLeq .leq (nat_lit 0) v75 (gC (n6 (nat_lit 255)))) w76) w76 (kPu (eGen (.pick t73 t76 (.c (.b false)))) w77 (kPu (eMv v77) w4 kEnd)))))))))))))))))) (kSeq (kSeq (kPu (eBin fEql .eql (nat_lit 0) v14 (gC (n6 (nat_lit 5)))) w79 (kPu (eMv v79) w78 kEnd))
 (kCond v78 kEnd (kPu (eBin fEql .eql (nat_lit 0) v14 (gC (n6 (nat_lit 6)))) w80 (kPu (eMv v80) w78 kEnd))))
 (kCond v78 (kSeq (kPu (eFieldA (nat_lit 22) v1) w81 (kRd (eLd1 v81) w82 (kPu (eFieldA (nat_lit 22) v3) w83 (kHv (eSt1 v83 v82) s0 kEnd))))
 (kPu (eMv v4) w84 (kPu (eMv v84) w85 (kGd v85 true (kPu (eFieldA (nat_lit 22) v1) w86) w86 (kGd v85 true (kRd (eLd1 v86) w87) w87 (kGd v85 true (kCall q23 [v87] w88) w88 (kPu (eGen (.pick t85 t88 (.c (.b false)))) w89 (kPu (eMv v89) w4 kEnd)))))))) (kSeq (kPu (eBin fEql .eql (nat_lit 0) v14 (gC (n6 (nat_lit 7)))) w91 (kPu (eMv v91) w90 kEnd))
 (kCond v90 kEnd (kSeq (kPu (eMv (gC (.b false))) w2 kEnd)
 kRt)))))))))))))
 (kSeq (kPu (eMv v4) w92 (kPu (eMv v92) w93 (kGd v93 true (kRd (eLdA (nat_lit 23) v1) w94) w94 (kGd v93 true (kRd (eLdA (nat_lit 23) v3) w95) w95 (kGd v93 true (kCall q24 [v94, v95] w96) w96 (kPu (eGen (.pick t93 t96 (.c (.b false)))) w97 (kPu (eMv v97) w2 kEnd)))))))
 kRt))))), none⟩
noncomputable def G15 : G := ⟨(nat_lit 110), Tr.fill undefV (nat_lit 110) (nat_lit 110), (rGen [(.c q6 true (nat_lit 23)), (.t q7)]), (kSeq (kAl (eA (.box t0 (nat_lit 40))) w3 (kAl (eA (.box t1 (nat_lit 40))) w4 (kAl (eA (.alloc [(n6 (nat_lit 0)), (.s []), (n6 (nat_lit 0)), (n6 (nat_lit 0)), (.b false), (n6 (nat_lit 0)), (n6 (nat_lit 0)), (.s []), (.b false), (n6 (nat_lit 0)), (n6 (nat_lit 0)), (n6 (nat_lit 0)), (.s []), (.b false), (n6 (nat_lit 0)), .sl0, .sl0, (n6 (nat_lit 0)), (n6 (nat_lit 0)), (n6 (nat_lit 0)), .sl0, (n6 (nat_lit 0)), (.s [])] (nat_lit 40))) w6 (kPu (eMv (gC (.b false))) w7 kEnd))))
 (kSeq (kPu (eFieldA (nat_lit 1) v3) w10 (kRd (eLd1 v10) w11 (kPu (eFieldA (nat_lit 1) v4) w12 (kRd (eLd1 v12) w13 (kPu (eBin fEql .eql (nat_lit 0) v11 v13) w14 (kPu (eMv v14) w8 kEnd))))))
 (kSeq (kSeq (kPu (eFieldA (nat_lit 0) v4) w15 (kRd (eLd1 v15) w16 kEnd))
 (kBlock (nat_lit 0) (kSeq (kPu (eBin fEql .eql (nat_lit 0) v16 (gC (n6 (nat_lit 1)))) w18 (kPu (eMv v18) w17 kEnd))
 (kCond v17 (kSeq (kPu (eFieldA (nat_lit 0) v3) w19 (kRd (eLd1 v19) w20 (kPu (eBin fEql .eql (nat_lit 0) v20 (gC (n6 (nat_lit 1)))) w21 (kPu (eMv v21) w22 (kGd v22 true (kPu (eMv v8) w23) w23 (kPu (eGen (.pick t22 t23 (.c (.b false)))) w24 (kPu (eMv v24) w25 (kGd v25 true (kPu (eFieldA (nat_lit 2) v3) w26) w26 (kGd v25 true (kRd (eLd1 v26) w27) w27 (kGd v25 true (kPu (eFieldA (nat_lit 2) v4) w28) w28 (kGd v25 true (kRd (eLd1 v28) w29) w29 (kGd v25 true (kPu (eBin fEql .eql (nat_lit 0) v27 v29) w30) w30 (kPu (eGen (.pick t25 t30 (.c (.b false)))) w31 (kPu (eMv v31) w32 (kGd v32 true (kPu (eFieldA (nat_lit 3) v3) w33) w33 (kGd v32 true (kRd (eLd1 v33) w34) w34 (kGd v32 true (kPu (eFieldA (nat_lit 3) v4) w35) w35 (kGd v32 true (kRd (eLd1 v35) w36) w36 (kGd v32 true (kPu (eBin fEql .eql (nat_lit 0) v34 v36) w37) w37 (kPu (eGen (.pick t32 t37 (.c (.b false)))) w38 (kPu (eMv v38) w9 kEnd)))))))))))))))))))))
 (kSeq (kRd (eLdA (nat_lit 23) v3) w39 (kPu (eMv v9) w40 (kPu (eGen (.un .not t40)) w41 (kPu (eMv v41) w42 (kGd v42 false (kPu (eMv v2) w43) w43 (kGd v42 false (kPu (eGen (.un .not t43)) w44) w44 (kPu (eGen (.pick t42 (.c (.b true)) t44)) w45 (kHv (eStN (nat_lit 23) v6 v39) s0 (kPu (eMv v45) w7 kEnd)))))))))
 kRt)) (kSeq (kSeq (kPu (eBin fEql .eql (nat_lit 0) v16 (gC (n6 (nat_lit 2)))) w47 (kPu (eMv v47) w46 kEnd))
 (kCond v46 kEnd (kPu (eBin fEql .eql (nat_lit 0) v16 (gC (n6 (nat_lit 3)))) w48 (kPu (eMv v48) w46 kEnd))))
 (kCond v46 (kSeq (kRd (eLdA (nat_lit 23) v3) w49 (kRd (eLdA (nat_lit 23) v4) w50 (kPu (eMv v2) w51 (kCall q25 [v49, v50, v51] w52 (kPu (eExt (nat_lit 0) v52) w53 (kPu (eExt (nat_lit 1) v52) w54 (kHv (eStN (nat_lit 23) v6 v53) s0 (kPu (eMv v54) w7 kEnd))))))))
 kRt) (kSeq (kPu (eBin fEql .eql (nat_lit 0) v16 (gC (n6 (nat_lit 4)))) w56 (kPu (eMv v56) w55 kEnd))
 (kCond v55 (kSeq (kPu (eFieldA (nat_lit 0) v3) w57 (kRd (eLd1 v57) w58 (kPu (eBin fEql .eql (nat_lit 0) v58 (gC (n6 (nat_lit 4)))) w59 (kPu (eMv v59) w60 (kGd v60 true (kPu (eMv v8) w61) w61 (kPu (eGen (.pick t60 t61 (.c (.b false)))) w62 (kPu (eMv v62) w63 (kGd v63 true (kPu (eMv v2) w64) w64 (kPu (eGen (.pick t63 t64 (.c (.b false)))) w65 kEnd)))))))))
 (kCond v65 (kPu (eFieldA (nat_lit 20) v3) w66 (kRd (eLd1 v66) w67 (kPu (eFieldA (nat_lit 20) v4) w68 (kRd (eLd1 v68) w69 (kCall q26 [v67, v69] w70 (kPu (eFieldA (nat_lit 20) v3) w71 (kHv (eSt1 v71 v70) s0 kEnd))))))) kEnd)) (kSeq (kPu (eBin fEql .eql (nat_lit 0) v16 (gC (n6 (nat_lit 6)))) w73 (kPu (eMv v73) w72 kEnd))
 (kCond v72 (kSeq (kRd (eLdA (nat_lit 23) v3) w74 (kPu (eFieldA (nat_lit 0) v3) w75 (kRd (eLd1 v75) w76 (kPu (eBin fNeq .neq (nat_lit 0) v76 (gC (n6 (nat_lit 6)))) w77 (kPu (eMv v77) w78 (kGd v78 false (kPu (eMv v8) w79) w79 (kGd v78 false (kPu (eGen (.un .not t79)) w80) w80 (kPu (eGen (.pick t78 (.c (.b true)) t80)) w81 (kPu (eMv v81) w82 (kGd v82 false (kPu (eMv v2) w83) w83 (kGd v82 false (kPu (eGen (.un .not t83)) w84) w84 (kPu (eGen (.pick t82 (.c (.b true)) t84)) w85 (kHv (eStN (nat_lit 23) v6 v74) s0 (kPu (eMv v85) w7 kEnd))))))))))))))
 kRt) (kSeq (kPu (eBin fEql .eql (nat_lit 0) v16 (gC (n6 (nat_lit 7)))) w87 (kPu (eMv v87) w86 kEnd))
 (kCond v86 (kSeq (kSeq (kPu (eFieldA (nat_lit 0) v3) w88 (kRd (eLd1 v88) w89 (kPu (eBin fEql .eql (nat_lit 0) v89 (gC (n6 (nat_lit 1)))) w90 (kPu (eMv v90) w91 (kGd v91 true (kPu (eFieldA (nat_lit 4) v3) w92) w92 (kGd v91 true (kPu (eFieldA (nat_lit 0) v92) w93) w93 (kGd v91 true (kRd (eLd1 v93) w94) w94 (kPu (eGen (.pick t91 t94 (.c (.b false)))) w95 kEnd))))))))
 (kCond v95 (kPu (eFieldA (nat_lit 4) v3) w96 (kPu (eFieldA (nat_lit 6) v96) w97 (kRd (eLdA (nat_lit 7) v97) w98 (kPu (eFieldA (nat_lit 1) v3) w99 (kRd (eLd1 v99) w100 (kPu (eFieldA (nat_lit 1) v4) w101 (kRd (eLd1 v101) w102 (kCall q27 [v98, v100, v102] w103 (kPu (eFieldA (nat_lit 4) v3) w104 (kPu (eFieldA (nat_lit 6) v104) w105 (kHv (eStN (nat_lit 7) v105 v103) s0 kEnd))))))))))) kEnd))
 (kSeq (kRd (eLdA (nat_lit 23) v3) w106 (kPu (eMv v8) w107 (kPu (eGen (.un .not t107)) w108 (kHv (eStN (nat_lit 23) v6 v106) s0 (kPu (eMv v108) w7 kEnd)))))
 kRt)) kEnd))))))))))))
 (kSeq (kRd (eLdA (nat_lit 23) v3) w109 (kHv (eStN (nat_lit 23) v6 v109) s0 (kPu (eMv (gC (.b true))) w7 kEnd)))
 kRt)))), none⟩
noncomputable def G16 : G := ⟨(nat_lit 28), Tr.fill undefV (nat_lit 28) (nat_lit 28), (rOne v2), (kSeq (kPu (eMv (gC .sl0)) w2 kEnd)
 (kSeq (kPu (eMv (gC .sl0)) w3 kEnd)
 (kSeq (kSeq (kPu (eMv v0) w6 (kPu (eLenSl v6) w7 (kPu (eMv (gC (n6 (nat_lit 0)))) w8 kEnd)))
 (kBlock (nat_lit 0) (kLoop (kSeq (kPu (eBin fLss .lss (nat_lit 0) v8 v7) w9 kEnd)
 (kSeq (kCond v9 kEnd (kExit (nat_lit 0)))
 (kSeq (kBlock (nat_lit 1) (kSeq (kPu (eIdxA (nat_lit 23) v6 v8) w10 (kRd (eLdA (nat_lit 23) v10) w11 (kAl (eA (.alloc [(n6 (nat_lit 0)), (.s []), (n6 (nat_lit 0)), (n6 (nat_lit 0)), (.b false), (n6 (nat_lit 0)), (n6 (nat_lit 0)), (.s []), (.b false), (n6 (nat_lit 0)), (n6 (nat_lit 0)), (n6 (nat_lit 0)), (.s []), (.b false), (n6 (nat_lit 0)), .sl0, .sl0, (n6 (nat_lit 0)), (n6 (nat_lit 0)), (n6 (nat_lit 0)), .sl0, (n6 (nat_lit 0)), (.s [])] (nat_lit 40))) w5 (kHv (eStN (nat_lit 23) v5 v11) s0 kEnd))))
 (kSeq (kPu (eFieldA (nat_lit 20) v5) w12 (kRd (eLd1 v12) w13 (kCall q28 [v13] w14 (kPu (eFieldA (nat_lit 20) v5) w15 (kHv (eSt1 v15 v14) s0 kEnd)))))
 (kSeq (kPu (eFieldA (nat_lit 4) v5) w16 (kPu (eFieldA (nat_lit 6) v16) w17 (kRd (eLdA (nat_lit 7) v17) w18 (kCall q29 [v18] w19 (kPu (eFieldA (nat_lit 4) v5) w20 (kPu (eFieldA (nat_lit 6) v20) w21 (kHv (eStN (nat_lit 7) v21 v19) s0 kEnd)))))))
 (kPu (eMv v3) w22 (kRd (eLdA (nat_lit 23) v5) w23 (kAl (eA (.buildSl [(n6 (nat_lit 0)), (.s []), (n6 (nat_lit 0)), (n6 (nat_lit 0)), (.b false), (n6 (nat_lit 0)), (n6 (nat_lit 0)), (.s []), (.b false), (n6 (nat_lit 0)), (n6 (nat_lit 0)), (n6 (nat_lit 0)), (.s []), (.b false), (n6 (nat_lit 0)), .sl0, .sl0, (n6 (nat_lit 0)), (n6 (nat_lit 0)), (n6 (nat_lit 0)), .sl0, (n6 (nat_lit 0)), (.s [])] (nat_lit 40) (nat_lit 23) (nat_lit 1) [((nat_lit 0), (nat_lit 23), t23)])) w24 (kHv (eApp (nat_lit 23) (nat_lit 264) (nat_lit 40) v22 v24) w25 (kPu (eMv v25) w3 kEnd)))))))))
 (kPu (eBin fAdd .add (nat_lit 0) v8 (gC (n6 (nat_lit 1)))) w26 (kPu (eMv v26) w8 kEnd))))))))
 (kSeq (kPu (eMv v3) w27 (kPu (eMv v27) w2 kEnd))
 kRt)))), none⟩
noncomputable def G18 : G := ⟨(nat_lit 6), Tr.fill undefV (nat_lit 6) (nat_lit 6), (rOne v2), (kSeq (kPu (eMv (gC (.b false))) w2 kEnd)
 (kSeq (kPu (eMv v0) w3 (kCall q31 [v3] w4 (kPu (eBin fGeq .geq (nat_lit 0) v4 (gC (n6 (nat_lit 0)))) w5 (kPu (eMv v5) w2 kEnd))))
 kRt)), none⟩
noncomputable def G19 : G := ⟨(nat_lit 9), Tr.fill undefV (nat_lit 9) (nat_lit 9), (rOne v2), (kSeq (kPu (eMv (gC (.b false))) w2 kEnd)
 (kSeq (kPu (eMv v0) w3 (kPu (eBin fGeq .geq (nat_lit 0) v3 (gC (n6 (nat_lit 0)))) w4 (kPu (eMv v4) w5 (kGd v5 true (kPu (eMv v0) w6) w6 (kGd v5 true (kPu (eBin fLss .lss (nat_lit 0) v6 (gC (n6 (nat_lit 2199023255552)))) w7) w7 (kPu (eGen (.pick t5 t7 (.c (.b false)))) w8 (kPu (eMv v8) w2 kEnd)))))))
 kRt)), none⟩
noncomputable def G20 : G := ⟨(nat_lit 22), Tr.fill undefV (nat_lit 22) (nat_lit 22), (rOne v2), (kSeq (kAl (eA (.box t0 (nat_lit 37))) w1 (kPu (eMv (gC (.b false))) w2 kEnd))
 (kSeq (kSeq (kPu (eFieldA (nat_lit 0) v1) w3 (kRd (eLd1 v3) w4 kEnd))
 (kCond v4 (kSeq (kPu (eFieldA (nat_lit 6) v1) w5 (kRd (eLdA (nat_lit 7) v5) w6 (kCall q32 [v6] w7 (kPu (eMv v7) w8 (kGd v8 true (kPu (eFieldA (nat_lit 1) v1) w9) w9 (kGd v8 true (kRd (eLdA (nat_lit 5) v9) w10) w10 (kGd v8 true (kPu (eGen (.build [(n6 (nat_lit 0)), (n6 (nat_lit 0)), (.s []), (.b false), (n6 (nat_lit 0))] [])) w11) w11 (kGd v8 true (kCall q33 [v10, v11] w12) w12 (kPu (eGen (.pick t8 t12 (.c (.b false)))) w13 (kPu (eMv v13) w2 kEnd))))))))))
 kRt) kEnd))
 (kSeq (kPu (eFieldA (nat_lit 1) v1) w14 (kRd (eLdA (nat_lit 5) v14) w15 (kCall q34 [v15] w16 (kPu (eMv v16) w17 (kGd v17 true (kPu (eFieldA (nat_lit 6) v1) w18) w18 (kGd v17 true (kRd (eLdA (nat_lit 7) v18) w19) w19 (kGd v17 true (kCall q35 [v19] w20) w20 (kPu (eGen (.pick t17 t20 (.c (.b false)))) w21 (kPu (eMv v21) w2 kEnd)))))))))
 kRt))), none⟩
noncomputable def G21 : G := ⟨(nat_lit 41), Tr.fill undefV (nat_lit 41) (nat_lit 41), (rOne v2), (kSeq (kAl (eA (.box t0 (nat_lit 28))) w1 (kPu (eMv (gC (.b false))) w2 kEnd))
 (kSeq (kSeq (kPu (eFieldA (nat_lit 0) v1) w3 (kRd (eLd1 v3) w4 kEnd))
 (kBlock (nat_lit 0) (kSeq (kSeq (kPu (eBin fEql .eql (nat_lit 0) v4 (gC (n6 (nat_lit 1)))) w6 (kPu (eMv v6) w5 kEnd))
 (kCond v5 kEnd (kPu (eBin fEql .eql (nat_lit 0) v4 (gC (n6 (nat_lit 2)))) w7 (kPu (eMv v7) w5 kEnd))))
 (kCond v5 (kSeq (kPu (eFieldA (nat_lit 1) v1) w8 (kRd (eLd1 v8) w9 (kCall q36 [v9] w10 (kPu (eMv v10) w11 (kGd v11 true (kPu (eFieldA (nat_lit 2) v1) w12) w12 (kGd v11 true (kRd (eLd1 v12) w13) w13 (kGd v11 true (kPu (eBin fEql .eql (nat_lit 0) v13 (gC (n6 (nat_lit 0)))) w14) w14 (kPu (eGen (.pick t11 t14 (.c (.b false)))) w15 (kPu (eMv v15) w2 kEnd)))))))))
 kRt) (kSeq (kPu (eBin fEql .eql (nat_lit 0) v4 (gC (n6 (nat_lit 3)))) w17 (kPu (eMv v17) w16 kEnd))
 (kCond v16 (kSeq (kPu (eFieldA (nat_lit 1) v1) w18 (kRd (eLd1 v18) w19 (kCall q36 [v19] w20 (kPu (eMv v20) w21 (kGd v21 true (kPu (eFieldA (nat_lit 2) v1) w22) w22 (kGd v21 true (kRd (eLd1 v22) w23) w23 (kGd v21 true (kCall q36 [v23] w24) w24 (kPu (eGen (.pick t21 t24 (.c (.b false)))) w25 (kPu (eMv v25) w26 (kGd v26 true (kPu (eFieldA (nat_lit 2) v1) w27) w27 (kGd v26 true (kRd (eLd1 v27) w28) w28 (kGd v26 true (kPu (eFieldA (nat_lit 1) v1) w29) w29 (kGd v26 true (kRd (eLd1 v29) w30) w30 (kGd v26 true (kPu (eBin fNeq .neq (nat_lit 0) v28 v30) w31) w31 (kPu (eGen (.pick t26 t31 (.c (.b false)))) w32 (kPu (eMv v32) w33 (kGd v33 true (kPu (eFieldA (nat_lit 2) v1) w34) w34 (kGd v33 true (kRd (eLd1 v34) w35) w35 (kGd v33 true (kPu (eBin fSub .sub (nat_lit 0) v35 (gC (n6 (nat_lit 1)))) w36) w36 (kGd v33 true (kPu (eFieldA (nat_lit 1) v1) w37) w37 (kGd v33 true (kRd (eLd1 v37) w38) w38 (kGd v33 true (kPu (eBin fNeq .neq (nat_lit 0) v36 v38) w39) w39 (kPu (eGen (.pick t33 t39 (.c (.b false)))) w40 (kPu (eMv v40) w2 kEnd))))))))))))))))))))))))
 kRt) kEnd))))))
 (kSeq (kPu (eMv (gC (.b false))) w2 kEnd)
 kRt))), none⟩
noncomputable def G24 : G := ⟨(nat_lit 66), Tr.fill undefV (nat_lit 66) (nat_lit 66), (rOne v4), (kSeq (kAl (eA (.box t0 (nat_lit 40))) w2 (kAl (eA (.box t1 (nat_lit 40))) w3 (kPu (eMv (gC (.b false))) w4 kEnd)))
 (kSeq (kPu (eFieldA (nat_lit 0) v2) w5 (kRd (eLd1 v5) w6 (kPu (eFieldA (nat_lit 0) v3) w7 (kRd (eLd1 v7) w8 (kPu (eBin fEql .eql (nat_lit 0) v6 v8) w9 (kPu (eMv v9) w10 (kGd v10 true (kPu (eFieldA (nat_lit 1) v2) w11) w11 (kGd v10 true (kRd (eLd1 v11) w12) w12 (kGd v10 true (kPu (eFieldA (nat_lit 1) v3) w13) w13 (kGd v10 true (kRd (eLd1 v13) w14) w14 (kGd v10 true (kPu (eBin fEql .eql (nat_lit 0) v12 v14) w15) w15 (kPu (eGen (.pick t10 t15 (.c (.b false)))) w16 (kPu (eMv v16) w17 (kGd v17 true (kPu (eFieldA (nat_lit 2) v2) w18) w18 (kGd v17 true (kRd (eLd1 v18) w19) w19 (kGd v17 true (kPu (eFieldA (nat_lit 2) v3) w20) w20 (kGd v17 true (kRd (eLd1 v20) w21) w21 (kGd v17 true (kPu (eBin fEql .eql (nat_lit 0) v19 v21) w22) w22 (kPu (eGen (.pick t17 t22 (.c (.b false)))) w23 (kPu (eMv v23) w24 (kGd v24 true (kPu (eFieldA (nat_lit 3) v2) w25) w25 (kGd v24 true (kRd (eLd1 v25) w26) w26 (kGd v24 true (kPu (eFieldA (nat_lit 3) v3) w27) w27 (kGd v24 true (kRd (eLd1 v27) w28) w28 (kGd v24 true (kPu (eBin fEql .eql (nat_lit 0) v26 v28) w29) w29 (kPu (eGen (.pick t24 t29 (.c (.b false)))) w30 (kPu (eMv v30) w31 (kGd v31 true (kPu (eFieldA (nat_lit 4) v2) w32) w32 (kGd v31 true (kRd (eLdA (nat_lit 13) v32) w33) w33 (kGd v31 true (kPu (eFieldA (nat_lit 4) v3) w34) w34 (kGd v31 true (kRd (eLdA (nat_lit 13) v34) w35) w35 (kGd v31 true (kCall q41 [v33, v35] w36) w36 (kPu (eGen (.pick t31 t36 (.c (.b false)))) w37 (kPu (eMv v37) w38 (kGd v38 true (kPu (eFieldA (nat_lit 17) v2) w39) w39 (kGd v38 true (kRd (eLdA (nat_lit 3) v39) w40) w40 (kGd v38 true (kPu (eFieldA (nat_lit 17) v3) w41) w41 (kGd v38 true (kRd (eLdA (nat_lit 3) v41) w42) w42 (kGd v38 true (kPu (eGen (.eqS false [(nat_lit 1), (nat_lit 1), (nat_lit 1)] t40 t42)) w43) w43 (kPu (eGen (.pick t38 t43 (.c (.b false)))) w44 (kPu (eMv v44) w45 (kGd v45 true (kPu (eFieldA (nat_lit 20) v2) w46) w46 (kGd v45 true (kRd (eLd1 v46) w47) w47 (kGd v45 true (kPu (eFieldA (nat_lit 20) v3) w48) w48 (kGd v45 true (kRd (eLd1 v48) w49) w49 (kGd v45 true (kCall q39 [v47, v49] w50) w50 (kPu (eGen (.pick t45 t50 (.c (.b false)))) w51 (kPu (eMv v51) w52 (kGd v52 true (kPu (eFieldA (nat_lit 21) v2) w53) w53 (kGd v52 true (kRd (eLd1 v53) w54) w54 (kGd v52 true (kPu (eFieldA (nat_lit 21) v3) w55) w55 (kGd v52 true (kRd (eLd1 v55) w56) w56 (kGd v52 true (kPu (eBin fEql .eql (nat_lit 0) v54 v56) w57) w57 (kPu (eGen (.pick t52 t57 (.c (.b false)))) w58 (kPu (eMv v58) w59 (kGd v59 true (kPu (eFieldA (nat_lit 22) v2) w60) w60 (kGd v59 true (kRd (eLd1 v60) w61) w61 (kGd v59 true (kPu (eFieldA (nat_lit 22) v3) w62) w62 (kGd v59 true (kRd (eLd1 v62) w63) w63 (kGd v59 true (kPu (eBin fEql .eql (nat_lit 0) v61 v63) w64) w64 (kPu (eGen (.pick t59 t64 (.c (.b false)))) w65 (kPu (eMv v65) w4 kEnd))))))))))))))))))))))))))))))))))))))))))))))))))))))))))))))
 kRt)), none⟩
noncomputable def G25 : G := ⟨(nat_lit 104), Tr.fill undefV (nat_lit 104) (nat_lit 104), (rGen [(.c q6 true (nat_lit 23)), (.t q7)]), (kSeq (kAl (eA (.box t0 (nat_lit 40))) w3 (kAl (eA (.box t1 (nat_lit 40))) w4 (kAl (eA (.alloc [(n6 (nat_lit 0)), (.s []), (n6 (nat_lit 0)), (n6 (nat_lit 0)), (.b false), (n6 (nat_lit 0)), (n6 (nat_lit 0)), (.s []), (.b false), (n6 (nat_lit 0)), (n6 (nat_lit 0)), (n6 (nat_lit 0)), (.s []), (.b false), (n6 (nat_lit 0)), .sl0, .sl0, (n6 (nat_lit 0)), (n6 (nat_lit 0)), (n6 (nat_lit 0)), .sl0, (n6 (nat_lit 0)), (.s [])] (nat_lit 40))) w6 (kPu (eMv (gC (.b false))) w7 kEnd))))
 (kSeq (kPu (eFieldA (nat_lit 0) v4) w11 (kRd (eLd1 v11) w12 (kPu (eBin fEql .eql (nat_lit 0) v12 (gC (n6 (nat_lit 2)))) w13 (kPu (eMv v13) w8 kEnd))))
 (kSeq (kPu (eFieldA (nat_lit 1) v3) w14 (kRd (eLd1 v14) w15 (kPu (eFieldA (nat_lit 1) v4) w16 (kRd (eLd1 v16) w17 (kPu (eBin fEql .eql (nat_lit 0) v15 v17) w18 (kPu (eMv v18) w9 kEnd))))))
 (kSeq (kPu (eMv (gC (.b true))) w10 kEnd)
 (kSeq (kBlock (nat_lit 0) (kSeq (kPu (eFieldA (nat_lit 0) v3) w20 (kRd (eLd1 v20) w21 (kPu (eBin fEql .eql (nat_lit 0) v21 (gC (n6 (nat_lit 1)))) w22 (kPu (eMv v22) w23 (kGd v23 true (kPu (eMv v9) w24) w24 (kPu (eGen (.pick t23 t24 (.c (.b false)))) w25 (kPu (eMv v25) w26 (kGd v26 true (kPu (eMv v8) w27) w27 (kPu (eGen (.pick t26 t27 (.c (.b false)))) w28 (kPu (eMv v28) w19 kEnd))))))))))
 (kCond v19 (kPu (eFieldA (nat_lit 17) v4) w29 (kRd (eLdA (nat_lit 3) v29) w30 (kPu (eFieldA (nat_lit 2) v3) w31 (kRd (eLd1 v31) w32 (kCall q42 [v30, v32] w33 (kPu (eFieldA (nat_lit 2) v3) w34 (kHv (eSt1 v34 v33) s0 kEnd))))))) (kSeq (kPu (eFieldA (nat_lit 0) v3) w36 (kRd (eLd1 v36) w37 (kPu (eBin fEql .eql (nat_lit 0) v37 (gC (n6 (nat_lit 1)))) w38 (kPu (eMv v38) w39 (kGd v39 true (kPu (eMv v9) w40) w40 (kPu (eGen (.pick t39 t40 (.c (.b false)))) w41 (kPu (eMv v41) w35 kEnd)))))))
 (kCond v35 (kPu (eFieldA (nat_lit 17) v4) w42 (kRd (eLdA (nat_lit 3) v42) w43 (kPu (eFieldA (nat_lit 3) v3) w44 (kRd (eLd1 v44) w45 (kCall q42 [v43, v45] w46 (kPu (eFieldA (nat_lit 3) v3) w47 (kHv (eSt1 v47 v46) s0 kEnd))))))) (kSeq (kPu (eFieldA (nat_lit 0) v3) w49 (kRd (eLd1 v49) w50 (kPu (eBin fEql .eql (nat_lit 0) v50 (gC (n6 (nat_lit 4)))) w51 (kPu (eMv v51) w52 (kGd v52 true (kPu (eMv v9) w53) w53 (kPu (eGen (.pick t52 t53 (.c (.b false)))) w54 (kPu (eMv v54) w48 kEnd)))))))
 (kCond v48 (kPu (eFieldA (nat_lit 20) v3) w55 (kRd (eLd1 v55) w56 (kPu (eMv v8) w57 (kPu (eFieldA (nat_lit 17) v4) w58 (kRd (eLdA (nat_lit 3) v58) w59 (kCall q43 [v56, v57, v59] w60 (kPu (eFieldA (nat_lit 20) v3) w61 (kHv (eSt1 v61 v60) s0 kEnd)))))))) (kSeq (kPu (eFieldA (nat_lit 0) v3) w63 (kRd (eLd1 v63) w64 (kPu (eFieldA (nat_lit 0) v4) w65 (kRd (eLd1 v65) w66 (kPu (eBin fEql .eql (nat_lit 0) v64 v66) w67 (kPu (eMv v67) w68 (kGd v68 true (kPu (eMv v9) w69) w69 (kPu (eGen (.pick t68 t69 (.c (.b false)))) w70 (kPu (eMv v70) w62 kEnd)))))))))
 (kCond v62 (kPu (eFieldA (nat_lit 17) v3) w72 (kRd (eLdA (nat_lit 3) v72) w73 (kPu (eFieldA (nat_lit 17) v4) w74 (kRd (eLdA (nat_lit 3) v74) w75 (kPu (eMv v2) w76 (kCall q44 [v73, v75, v76] w77 (kPu (eMv v77) w71 (kPu (eExt (nat_lit 0) v71) w78 (kPu (eExt (nat_lit 1) v71) w79 (kPu (eFieldA (nat_lit 17) v3) w80 (kHv (eStN (nat_lit 3) v80 v78) s0 (kPu (eMv v79) w10 kEnd)))))))))))) kEnd)))))))))
 (kSeq (kSeq (kPu (eFieldA (nat_lit 0) v3) w81 (kRd (eLd1 v81) w82 (kPu (eBin fEql .eql (nat_lit 0) v82 (gC (n6 (nat_lit 1)))) w83 (kPu (eMv v83) w84 (kGd v84 true (kPu (eFieldA (nat_lit 4) v3) w85) w85 (kGd v84 true (kPu (eFieldA (nat_lit 0) v85) w86) w86 (kGd v84 true (kRd (eLd1 v86) w87) w87 (kPu (eGen (.pick t84 t87 (.c (.b false)))) w88 kEnd))))))))
 (kCond v88 (kPu (eFieldA (nat_lit 4) v3) w89 (kPu (eFieldA (nat_lit 6) v89) w90 (kRd (eLdA (nat_lit 7) v90) w91 (kPu (eFieldA (nat_lit 1) v3) w92 (kRd (eLd1 v92) w93 (kPu (eFieldA (nat_lit 1) v4) w94 (kRd (eLd1 v94) w95 (kPu (eMv v8) w96 (kPu (eFieldA (nat_lit 17) v4) w97 (kRd (eLdA (nat_lit 3) v97) w98 (kCall q45 [v91, v93, v95, v96, v98] w99 (kPu (eFieldA (nat_lit 4) v3) w100 (kPu (eFieldA (nat_lit 6) v100) w101 (kHv (eStN (nat_lit 7) v101 v99) s0 kEnd)))))))))))))) kEnd))
 (kSeq (kRd (eLdA (nat_lit 23) v3) w102 (kPu (eMv v10) w103 (kHv (eStN (nat_lit 23) v6 v102) s0 (kPu (eMv v103) w7 kEnd))))
 kRt))))))), none⟩
noncomputable def G28 : G := ⟨(nat_lit 8), Tr.fill undefV (nat_lit 8) (nat_lit 8), (rOne v2), (kSeq (kPu (eMv (gC .sl0)) w2 kEnd)
 (kSeq (kSeq (kPu (eMv v0) w3 (kPu (eBin fEql .eql (nat_lit 5) v3 (gC .sl0)) w4 kEnd))
 (kCond v4 (kSeq (kPu (eMv (gC .sl0)) w2 kEnd)
 kRt) kEnd))
 (kSeq (kAl (eA (.buildSl [] (nat_lit 64) (nat_lit 4) (nat_lit 0) [])) w5 (kPu (eMv v0) w6 (kHv (eApp (nat_lit 4) (nat_lit 32) (nat_lit 64) v5 v6) w7 (kPu (eMv v7) w2 kEnd))))
 kRt))), none⟩
noncomputable def G29 : G := ⟨(nat_lit 26), Tr.fill undefV (nat_lit 26) (nat_lit 26), (rGen [(.c q2 true (nat_lit 7))]), (kSeq (kAl (eA (.box t0 (nat_lit 35))) w1 (kAl (eA (.alloc [(n6 (nat_lit 0)), (n6 (nat_lit 0)), (.s []), (.b false), (n6 (nat_lit 0)), .sl0, .sl0] (nat_lit 35))) w2 kEnd))
 (kSeq (kPu (eFieldA (nat_lit 5) v1) w6 (kRd (eLd1 v6) w7 (kHv (eApp (nat_lit 5) (nat_lit 40) (nat_lit 46) (gC .sl0) v7) w8 (kPu (eFieldA (nat_lit 5) v1) w9 (kHv (eSt1 v9 v8) s0 kEnd)))))
 (kSeq (kPu (eMv (gC .sl0)) w3 kEnd)
 (kSeq (kSeq (kPu (eFieldA (nat_lit 6) v1) w10 (kRd (eLd1 v10) w11 (kPu (eLenSl v11) w12 (kPu (eMv (gC (n6 (nat_lit 0)))) w13 kEnd))))
 (kBlock (nat_lit 0) (kLoop (kSeq (kPu (eBin fLss .lss (nat_lit 0) v13 v12) w14 kEnd)
 (kSeq (kCond v14 kEnd (kExit (nat_lit 0)))
 (kSeq (kBlock (nat_lit 1) (kSeq (kPu (eIdxA (nat_lit 7) v11 v13) w15 (kRd (eLdA (nat_lit 7) v15) w16 (kAl (eA (.alloc [(n6 (nat_lit 0)), (n6 (nat_lit 0)), (.s []), (.b false), (n6 (nat_lit 0)), .sl0, .sl0] (nat_lit 35))) w5 (kHv (eStN (nat_lit 7) v5 v16) s0 kEnd))))
 (kPu (eMv v3) w17 (kRd (eLdA (nat_lit 7) v5) w18 (kCall q29 [v18] w19 (kAl (eA (.buildSl [(n6 (nat_lit 0)), (n6 (nat_lit 0)), (.s []), (.b false), (n6 (nat_lit 0)), .sl0, .sl0] (nat_lit 35) (nat_lit 7) (nat_lit 1) [((nat_lit 0), (nat_lit 7), t19)])) w20 (kHv (eApp (nat_lit 7) (nat_lit 96) (nat_lit 35) v17 v20) w21 (kPu (eMv v21) w3 kEnd))))))))
 (kPu (eBin fAdd .add (nat_lit 0) v13 (gC (n6 (nat_lit 1)))) w22 (kPu (eMv v22) w13 kEnd))))))))
 (kSeq (kPu (eMv v3) w23 (kPu (eFieldA (nat_lit 6) v1) w24 (kHv (eSt1 v24 v23) s0 kEnd)))
 (kSeq (kRd (eLdA (nat_lit 7) v1) w25 (kHv (eStN (nat_lit 7) v2 v25) s0 kEnd))
 kRt)))))), none⟩
noncomputable def G31 : G := ⟨(nat_lit 11), Tr.fill undefV (nat_lit 11) (nat_lit 11), (rOne v2), (kSeq (kPu (eMv (gC (n6 (nat_lit 0)))) w2 kEnd)
 (kSeq (kPu (eMv v0) w6 (kCall q55 [v6] w7 (kPu (eMv v7) w5 (kPu (eExt (nat_lit 0) v5) w8 (kPu (eExt (nat_lit 1) v5) w9 (kPu (eMv v8) w3 (kPu (eMv v9) w4 kEnd)))))))
 (kSeq (kPu (eMv v3) w10 (kPu (eMv v10) w2 kEnd))
 kRt))), none⟩
noncomputable def G33 : G := ⟨(nat_lit 8), Tr.fill undefV (nat_lit 8) (nat_lit 8), (rOne v4), (kSeq (kAl (eA (.box t0 (nat_lit 31))) w2 (kAl (eA (.box t1 (nat_lit 31))) w3 (kPu (eMv (gC (.b false))) w4 kEnd)))
 (kSeq (kRd (eLdA (nat_lit 5) v2) w5 (kRd (eLdA (nat_lit 5) v3) w6 (kPu (eGen (.eqS false [(nat_lit 1), (nat_lit 1), (nat_lit 2), (nat_lit 0), (nat_lit 1)] t5 t6)) w7 (kPu (eMv v7) w4 kEnd))))
 kRt)), none⟩
noncomputable def G34 : G := ⟨(nat_lit 49), Tr.fill undefV (nat_lit 49) (nat_lit 49), (rOne v2), (kSeq (kAl (eA (.box t0 (nat_lit 31))) w1 (kPu (eMv (gC (.b false))) w2 kEnd))
 (kSeq (kPu (eFieldA (nat_lit 0) v1) w4 (kRd (eLd1 v4) w5 (kPu (eGen (.build [(n6 (nat_lit 0)), (n6 (nat_lit 0)), (.s []), (.b false), (n6 (nat_lit 0))] [((nat_lit 0), (nat_lit 1), t5)])) w6 (kAl (eA (.alloc [(n6 (nat_lit 0)), (n6 (nat_lit 0)), (.s []), (.b false), (n6 (nat_lit 0))] (nat_lit 31))) w3 (kHv (eStN (nat_lit 5) v3 v6) s0 kEnd)))))
 (kSeq (kSeq (kPu (eFieldA (nat_lit 0) v1) w7 (kRd (eLd1 v7) w8 kEnd))
 (kBlock (nat_lit 0) (kSeq (kPu (eBin fEql .eql (nat_lit 0) v8 (gC (n6 (nat_lit 0)))) w10 (kPu (eMv v10) w9 kEnd))
 (kCond v9 kEnd (kSeq (kPu (eBin fEql .eql (nat_lit 0) v8 (gC (n6 (nat_lit 1)))) w12 (kPu (eMv v12) w11 kEnd))
 (kCond v11 (kPu (eFieldA (nat_lit 1) v1) w13 (kRd (eLd1 v13) w14 (kPu (eFieldA (nat_lit 1) v3) w15 (kHv (eSt1 v15 v14) s0 kEnd)))) (kSeq (kPu (eBin fEql .eql (nat_lit 0) v8 (gC (n6 (nat_lit 2)))) w17 (kPu (eMv v17) w16 kEnd))
 (kCond v16 (kPu (eFieldA (nat_lit 2) v1) w18 (kRd (eLd1 v18) w19 (kPu (eFieldA (nat_lit 2) v3) w20 (kHv (eSt1 v20 v19) s0 kEnd)))) (kSeq (kPu (eBin fEql .eql (nat_lit 0) v8 (gC (n6 (nat_lit 3)))) w22 (kPu (eMv v22) w21 kEnd))
 (kCond v21 (kPu (eFieldA (nat_lit 3) v1) w23 (kRd (eLd1 v23) w24 (kPu (eFieldA (nat_lit 3) v3) w25 (kHv (eSt1 v25 v24) s0 kEnd)))) (kSeq (kPu (eBin fEql .eql (nat_lit 0) v8 (gC (n6 (nat_lit 4)))) w27 (kPu (eMv v27) w26 kEnd))
 (kCond v26 (kSeq (kPu (eFieldA (nat_lit 4) v1) w28 (kRd (eLd1 v28) w29 (kPu (eFieldA (nat_lit 4) v3) w30 (kHv (eSt1 v30 v29) s0 kEnd))))
 (kSeq (kPu (eFieldA (nat_lit 4) v1) w31 (kRd (eLd1 v31) w32 (kCall q57 [v32] w33 (kPu (eBin fEql .eql (nat_lit 0) v33 (gC (.s []))) w34 kEnd))))
 (kCond v34 (kSeq (kPu (eMv (gC (.b false))) w2 kEnd)
 kRt) kEnd))) (kSeq (kPu (eMv (gC (.b false))) w2 kEnd)
 kRt)))))))))))))
 (kSeq (kRd (eLdA (nat_lit 5) v1) w35 (kRd (eLdA (nat_lit 5) v3) w36 (kPu (eGen (.eqS false [(nat_lit 1), (nat_lit 1), (nat_lit 2), (nat_lit 0), (nat_lit 1)] t35 t36)) w37 (kPu (eMv v37) w38 (kGd v38 true (kPu (eFieldA (nat_lit 2) v1) w39) w39 (kGd v38 true (kRd (eLd1 v39) w40) w40 (kGd v38 true (kPu (eGen (.lenS t40)) w41) w41 (kGd v38 true (kPu (eBin fLeq .leq (nat_lit 0) v41 (gC (n6 (nat_lit 200)))) w42) w42 (kPu (eGen (.pick t38 t42 (.c (.b false)))) w43 (kPu (eMv v43) w44 (kGd v44 true (kPu (eFieldA (nat_lit 2) v1) w45) w45 (kGd v44 true (kRd (eLd1 v45) w46) w46 (kGd v44 true (kCall q58 [v46] w47) w47 (kPu (eGen (.pick t44 t47 (.c (.b false)))) w48 (kPu (eMv v48) w2 kEnd)))))))))))))))
 kRt)))), none⟩
noncomputable def G35 : G := ⟨(nat_lit 6), Tr.fill undefV (nat_lit 6) (nat_lit 6), (rOne v2), (kSeq (kAl (eA (.box t0 (nat_lit 35))) w1 (kPu (eMv (gC (.b false))) w2 kEnd))
 (kSeq (kRd (eLdA (nat_lit 7) v1) w3 (kPu (eGen (.build [(n6 (nat_lit 0)), (n6 (nat_lit 0)), (.s []), (.b false), (n6 (nat_lit 0)), .sl0, .sl0] [])) w4 (kCall q59 [v3, v4] w5 (kPu (eMv v5) w2 kEnd))))
 kRt)), none⟩
noncomputable def G36 : G := ⟨(nat_lit 9), Tr.fill undefV (nat_lit 9) (nat_lit 9), (rOne v2), (kSeq (kPu (eMv (gC (.b false))) w2 kEnd)
 (kSeq (kPu (eMv v0) w3 (kPu (eBin fGeq .geq (nat_lit 0) v3 (gC (n6 (nat_lit 0)))) w4 (kPu (eMv v4) w5 (kGd v5 true (kPu (eMv v0) w6) w6 (kGd v5 true (kPu (eBin fLss .lss (nat_lit 0) v6 (gC (n6 (nat_lit 2199023255552)))) w7) w7 (kPu (eGen (.pick t5 t7 (.c (.b false)))) w8 (kPu (eMv v8) w2 kEnd)))))))
 kRt)), none⟩
noncomputable def G39 : G := ⟨(nat_lit 26), Tr.fill undefV (nat_lit 26) (nat_lit 26), (rOne v4), (kSeq (kPu (eMv (gC (.b false))) w4 kEnd)
 (kSeq (kSeq (kPu (eMv v0) w6 (kPu (eLenSl v6) w7 (kPu (eMv v1) w8 (kPu (eLenSl v8) w9 (kPu (eBin fNeq .neq (nat_lit 0) v7 v9) w10 kEnd)))))
 (kCond v10 (kSeq (kPu (eMv (gC (.b false))) w4 kEnd)
 kRt) kEnd))
 (kSeq (kSeq (kPu (eMv v0) w11 (kPu (eLenSl v11) w12 (kPu (eMv (gC (n6 (nat_lit 0)))) w13 kEnd)))
 (kBlock (nat_lit 0) (kLoop (kSeq (kPu (eBin fLss .lss (nat_lit 0) v13 v12) w14 kEnd)
 (kSeq (kCond v14 kEnd (kExit (nat_lit 0)))
 (kSeq (kBlock (nat_lit 1) (kSeq (kPu (eMv v13) w15 (kPu (eMv v15) w5 kEnd))
 (kSeq (kPu (eMv v0) w16 (kPu (eMv v5) w17 (kPu (eIdxA (nat_lit 4) v16 v17) w18 (kRd (eLdA (nat_lit 4) v18) w19 (kPu (eMv v1) w20 (kPu (eMv v5) w21 (kPu (eIdxA (nat_lit 4) v20 v21) w22 (kRd (eLdA (nat_lit 4) v22) w23 (kPu (eGen (.eqS true [(nat_lit 1), (nat_lit 1), (nat_lit 1), (nat_lit 1)] t19 t23)) w24 kEnd)))))))))
 (kCond v24 (kSeq (kPu (eMv (gC (.b false))) w4 kEnd)
 kRt) kEnd))))
 (kPu (eBin fAdd .add (nat_lit 0) v13 (gC (n6 (nat_lit 1)))) w25 (kPu (eMv v25) w13 kEnd))))))))
 (kSeq (kPu (eMv (gC (.b true))) w4 kEnd)
 kRt)))), none⟩
noncomputable def G41 : G := ⟨(nat_lit 24), Tr.fill undefV (nat_lit 24) (nat_lit 24), (rOne v4), (kSeq (kAl (eA (.box t0 (nat_lit 37))) w2 (kAl (eA (.box t1 (nat_lit 37))) w3 (kPu (eMv (gC (.b false))) w4 kEnd)))
 (kSeq (kPu (eFieldA (nat_lit 0) v2) w5 (kRd (eLd1 v5) w6 (kPu (eFieldA (nat_lit 0) v3) w7 (kRd (eLd1 v7) w8 (kPu (eBin fEql .eql (nat_lit 3) v6 v8) w9 (kPu (eMv v9) w10 (kGd v10 true (kPu (eFieldA (nat_lit 1) v2) w11) w11 (kGd v10 true (kRd (eLdA (nat_lit 5) v11) w12) w12 (kGd v10 true (kPu (eFieldA (nat_lit 1) v3) w13) w13 (kGd v10 true (kRd (eLdA (nat_lit 5) v13) w14) w14 (kGd v10 true (kCall q33 [v12, v14] w15) w15 (kPu (eGen (.pick t10 t15 (.c (.b false)))) w16 (kPu (eMv v16) w17 (kGd v17 true (kPu (eFieldA (nat_lit 6) v2) w18) w18 (kGd v17 true (kRd (eLdA (nat_lit 7) v18) w19) w19 (kGd v17 true (kPu (eFieldA (nat_lit 6) v3) w20) w20 (kGd v17 true (kRd (eLdA (nat_lit 7) v20) w21) w21 (kGd v17 true (kCall q59 [v19, v21] w22) w22 (kPu (eGen (.pick t17 t22 (.c (.b false)))) w23 (kPu (eMv v23) w4 kEnd))))))))))))))))))))
 kRt)), none⟩
noncomputable def G42 : G := ⟨(nat_lit 55), Tr.fill undefV (nat_lit 55) (nat_lit 55), (rOne v4), (kSeq (kAl (eA (.box t0 (nat_lit 28))) w2 (kPu (eMv (gC (n6 (nat_lit 0)))) w4 kEnd))
 (kSeq (kSeq (kPu (eMv v1) w6 (kCall q61 [v6] w7 (kPu (eGen (.un .not t7)) w8 (kPu (eMv v8) w9 (kGd v9 false (kRd (eLdA (nat_lit 3) v2) w10) w10 (kGd v9 false (kCall q21 [v10] w11) w11 (kGd v9 false (kPu (eGen (.un .not t11)) w12) w12 (kPu (eGen (.pick t9 (.c (.b true)) t12)) w13 kEnd))))))))
 (kCond v13 (kSeq (kPu (eMv (gC (.i .i64 (.negSucc (nat_lit 0))))) w4 kEnd)
 kRt) kEnd))
 (kSeq (kSeq (kPu (eFieldA (nat_lit 0) v2) w14 (kRd (eLd1 v14) w15 kEnd))
 (kBlock (nat_lit 0) (kSeq (kPu (eBin fEql .eql (nat_lit 0) v15 (gC (n6 (nat_lit 1)))) w17 (kPu (eMv v17) w16 kEnd))
 (kCond v16 (kSeq (kSeq (kPu (eMv v1) w18 (kPu (eFieldA (nat_lit 1) v2) w19 (kRd (eLd1 v19) w20 (kPu (eBin fGeq .geq (nat_lit 0) v18 v20) w21 kEnd))))
 (kCond v21 (kSeq (kPu (eMv v1) w22 (kPu (eBin fAdd .add (nat_lit 0) v22 (gC (n6 (nat_lit 1)))) w23 (kPu (eMv v23) w4 kEnd)))
 kRt) kEnd))
 (kSeq (kPu (eMv v1) w24 (kPu (eMv v24) w4 kEnd))
 kRt)) (kSeq (kPu (eBin fEql .eql (nat_lit 0) v15 (gC (n6 (nat_lit 2)))) w26 (kPu (eMv v26) w25 kEnd))
 (kCond v25 (kSeq (kSeq (kPu (eMv v1) w27 (kPu (eFieldA (nat_lit 1) v2) w28 (kRd (eLd1 v28) w29 (kPu (eBin fEql .eql (nat_lit 0) v27 v29) w30 kEnd))))
 (kCond v30 (kSeq (kPu (eMv (gC (.i .i64 (.negSucc (nat_lit 0))))) w4 kEnd)
 kRt) kEnd))
 (kSeq (kPu (eMv v1) w31 (kPu (eFieldA (nat_lit 1) v2) w32 (kRd (eLd1 v32) w33 (kCall q62 [v31, v33] w34 (kPu (eMv v34) w4 kEnd)))))
 kRt)) kEnd))))))
 (kSeq (kPu (eFieldA (nat_lit 2) v2) w35 (kRd (eLd1 v35) w36 (kPu (eFieldA (nat_lit 1) v2) w37 (kRd (eLd1 v37) w38 (kCall q62 [v36, v38] w39 (kPu (eMv v39) w5 kEnd))))))
 (kSeq (kSeq (kPu (eMv v1) w40 (kPu (eFieldA (nat_lit 1) v2) w41 (kRd (eLd1 v41) w42 (kPu (eBin fEql .eql (nat_lit 0) v40 v42) w43 kEnd))))
 (kCond v43 (kSeq (kPu (eMv v5) w44 (kPu (eMv v44) w4 kEnd))
 kRt) kEnd))
 (kSeq (kSeq (kPu (eMv v1) w45 (kPu (eFieldA (nat_lit 1) v2) w46 (kRd (eLd1 v46) w47 (kCall q62 [v45, v47] w48 (kPu (eMv v48) w1 kEnd)))))
 (kSeq (kPu (eMv v1) w49 (kPu (eMv v5) w50 (kPu (eBin fGeq .geq (nat_lit 0) v49 v50) w51 kEnd)))
 (kCond v51 (kSeq (kPu (eMv v1) w52 (kPu (eBin fAdd .add (nat_lit 0) v52 (gC (n6 (nat_lit 1)))) w53 (kPu (eMv v53) w4 kEnd)))
 kRt) kEnd)))
 (kSeq (kPu (eMv v1) w54 (kPu (eMv v54) w4 kEnd))
 kRt))))))), none⟩
noncomputable def G55 : G := ⟨(nat_lit 41), Tr.fill undefV (nat_lit 41) (nat_lit 41), (rGen [(.t q2), (.t q3)]), (kSeq (kPu (eMv (gC (n6 (nat_lit 0)))) w2 (kPu (eMv (gC (n6 (nat_lit 0)))) w3 kEnd))
 (kSeq (kPu (eMv v0) w11 (kCall q72 [v11, (gC (.s [(nat_lit 110)]))] w12 (kPu (eMv v12) w10 (kPu (eExt (nat_lit 0) v10) w13 (kPu (eExt (nat_lit 1) v10) w14 (kPu (eExt (nat_lit 2) v10) w15 (kPu (eMv v13) w4 (kPu (eMv v14) w5 (kPu (eMv v15) w6 kEnd)))))))))
 (kSeq (kPu (eMv v4) w17 (kCall q73 [v17, (gC (.s [(nat_lit 99)]))] w18 (kPu (eMv v18) w16 (kPu (eExt (nat_lit 0) v16) w19 (kPu (eExt (nat_lit 1) v16) w20 (kPu (eMv v19) w4 (kPu (eMv v20) w7 kEnd)))))))
 (kSeq (kPu (eMv v4) w21 (kCall q74 [v21, (gC (n6 (nat_lit 15)))] w22 (kPu (eMv v5) w23 (kCall q74 [v23, (gC (n6 (nat_lit 999999)))] w24 (kPu (eMv v22) w8 (kPu (eMv v24) w9 kEnd))))))
 (kSeq (kSeq (kPu (eMv v6) w25 (kPu (eGen (.un .not t25)) w26 (kPu (eMv v26) w27 (kGd v27 false (kPu (eMv v7) w28) w28 (kGd v27 false (kPu (eGen (.un .not t28)) w29) w29 (kPu (eGen (.pick t27 (.c (.b true)) t29)) w30 (kPu (eMv v30) w31 (kGd v31 false (kPu (eMv v8) w32) w32 (kGd v31 false (kPu (eBin fLss .lss (nat_lit 0) v32 (gC (n6 (nat_lit 0)))) w33) w33 (kPu (eGen (.pick t31 (.c (.b true)) t33)) w34 (kPu (eMv v34) w35 (kGd v35 false (kPu (eMv v9) w36) w36 (kGd v35 false (kPu (eBin fLss .lss (nat_lit 0) v36 (gC (n6 (nat_lit 0)))) w37) w37 (kPu (eGen (.pick t35 (.c (.b true)) t37)) w38 kEnd))))))))))))))
 (kCond v38 (kSeq (kPu (eMv (gC (.i .i64 (.negSucc (nat_lit 0))))) w2 (kPu (eMv (gC (.i .i64 (.negSucc (nat_lit 0))))) w3 kEnd))
 kRt) kEnd))
 (kSeq (kPu (eMv v8) w39 (kPu (eMv v9) w40 (kPu (eMv v39) w2 (kPu (eMv v40) w3 kEnd))))
 kRt)))))), none⟩
noncomputable def G58 : G := ⟨(nat_lit 169), Tr.fill undefV (nat_lit 169) (nat_lit 169), (rOne v2), (kSeq (kPu (eMv (gC (.b false))) w2 kEnd)
 (kSeq (kBlock (nat_lit 0) (kLoop (kSeq (kSeq (kPu (eMv v0) w7 (kPu (eGen (.lenS t7)) w8 (kPu (eBin fGtr .gtr (nat_lit 0) v8 (gC (n6 (nat_lit 0)))) w9 kEnd)))
 (kCond v9 kEnd (kExit (nat_lit 0))))
 (kBlock (nat_lit 1) (kSeq (kPu (eMv v0) w10 (kPu (eIdxS v10 (gC (n6 (nat_lit 0)))) w11 (kPu (eMv v11) w3 kEnd)))
 (kSeq (kSeq (kPu (eMv v3) w12 (kPu (eBin fLss .lss (nat_lit 0) v12 (gC (n8 (nat_lit 128)))) w13 kEnd))
 (kCond v13 (kSeq (kPu (eMv v0) w14 (kPu (eGen (.slStr t14 (some (.c (n6 (nat_lit 1)))) none)) w15 (kPu (eMv v15) w0 kEnd)))
 (kSeq (kSeq (kPu (eMv v0) w16 (kPu (eGen (.lenS t16)) w17 (kPu (eBin fGtr .gtr (nat_lit 0) v17 (gC (n6 (nat_lit 8)))) w18 (kPu (eMv v18) w19 (kGd v19 true (kPu (eMv v0) w20) w20 (kGd v19 true (kCall q76 [v20] w21) w21 (kGd v19 true (kPu (eBin fAnd .and (nat_lit 0) v21 (gC (.i .u64 (.ofNat (nat_lit 9259542123273814144))))) w22) w22 (kGd v19 true (kPu (eBin fEql .eql (nat_lit 0) v22 (gC (.i .u64 (.ofNat (nat_lit 0))))) w23) w23 (kPu (eGen (.pick t19 t23 (.c (.b false)))) w24 kEnd)))))))))
 (kCond v24 (kSeq (kPu (eMv v0) w25 (kPu (eGen (.slStr t25 (some (.c (n6 (nat_lit 8)))) none)) w26 (kPu (eMv v26) w0 kEnd)))
 (kSeq (kPu (eMv v0) w27 (kPu (eGen (.lenS t27)) w28 (kPu (eBin fGtr .gtr (nat_lit 0) v28 (gC (n6 (nat_lit 16)))) w29 (kPu (eMv v29) w30 (kGd v30 true (kPu (eMv v0) w31) w31 (kGd v30 true (kPu (eMv v0) w33) w33 (kGd v30 true (kPu (eGen (.slStr t33 (some (.c (n6 (nat_lit 8)))) none)) w34) w34 (kGd v30 true (kCall q76 [v31] w32) w32 (kGd v30 true (kCall q76 [v34] w35) w35 (kGd v30 true (kPu (eBin fOr .or (nat_lit 0) v32 v35) w36) w36 (kGd v30 true (kPu (eBin fAnd .and (nat_lit 0) v36 (gC (.i .u64 (.ofNat (nat_lit 9259542123273814144))))) w37) w37 (kGd v30 true (kPu (eBin fEql .eql (nat_lit 0) v37 (gC (.i .u64 (.ofNat (nat_lit 0))))) w38) w38 (kPu (eGen (.pick t30 t38 (.c (.b false)))) w39 kEnd)))))))))))))
 (kCond v39 (kSeq (kPu (eMv v0) w40 (kPu (eGen (.slStr t40 (some (.c (n6 (nat_lit 16)))) none)) w41 (kPu (eMv v41) w0 kEnd)))
 (kBlock (nat_lit 2) (kLoop (kSeq (kSeq (kPu (eMv v0) w42 (kPu (eGen (.lenS t42)) w43 (kPu (eBin fGtr .gtr (nat_lit 0) v43 (gC (n6 (nat_lit 32)))) w44 (kPu (eMv v44) w45 (kGd v45 true (kPu (eMv v0) w46) w46 (kGd v45 true (kPu (eMv v0) w48) w48 (kGd v45 true (kPu (eGen (.slStr t48 (some (.c (n6 (nat_lit 8)))) none)) w49) w49 (kGd v45 true (kPu (eMv v0) w52) w52 (kGd v45 true (kPu (eGen (.slStr t52 (some (.c (n6 (nat_lit 16)))) none)) w53) w53 (kGd v45 true (kPu (eMv v0) w55) w55 (kGd v45 true (kPu (eGen (.slStr t55 (some (.c (n6 (nat_lit 24)))) none)) w56) w56 (kGd v45 true (kCall q76 [v46] w47) w47 (kGd v45 true (kCall q76 [v49] w50) w50 (kGd v45 true (kPu (eBin fOr .or (nat_lit 0) v47 v50) w51) w51 (kGd v45 true (kCall q76 [v53] w54) w54 (kGd v45 true (kCall q76 [v56] w57) w57 (kGd v45 true (kPu (eBin fOr .or (nat_lit 0) v54 v57) w58) w58 (kGd v45 true (kPu (eBin fOr .or (nat_lit 0) v51 v58) w59) w59 (kGd v45 true (kPu (eBin fAnd .and (nat_lit 0) v59 (gC (.i .u64 (.ofNat (nat_lit 9259542123273814144))))) w60) w60 (kGd v45 true (kPu (eBin fEql .eql (nat_lit 0) v60 (gC (.i .u64 (.ofNat (nat_lit 0))))) w61) w61 (kPu (eGen (.pick t45 t61 (.c (.b false)))) w62 kEnd)))))))))))))))))))))
 (kCond v62 kEnd (kExit (nat_lit 2))))
 (kBlock (nat_lit 3) (kPu (eMv v0) w63 (kPu (eGen (.slStr t63 (some (.c (n6 (nat_lit 32)))) none)) w64 (kPu (eMv v64) w0 kEnd)))))))) kEnd))) kEnd))
 (kExit (nat_lit 1)))) kEnd))
 (kSeq (kPu (eMv v3) w65 (kBad1 (kRd (eLd1 v66) w67 (kPu (eMv v67) w4 kEnd))))
 (kSeq (kPu (eMv v4) w68 (kPu (eBin fAnd .and (nat_lit 0) v68 (gC (n8 (nat_lit 7)))) w69 (kPu (eConv .i64 v69) w70 (kPu (eMv v70) w5 kEnd))))
 (kSeq (kPu (eMv v4) w71 (kPu (eBin fShr .shr (nat_lit 0) v71 (gC (.i .u64 (.ofNat (nat_lit 4))))) w72 (kBad1 (kRd (eLdA (nat_lit 2) v73) w74 (kAl (eA (.alloc [(n8 (nat_lit 0)), (n8 (nat_lit 0))] (nat_lit 115))) w6 (kHv (eStN (nat_lit 2) v6 v74) s0 kEnd))))))
 (kSeq (kPu (eMv v5) w75 kEnd)
 (kBlock (nat_lit 4) (kSeq (kPu (eBin fEql .eql (nat_lit 0) v75 (gC (n6 (nat_lit 2)))) w77 (kPu (eMv v77) w76 kEnd))
 (kCond v76 (kSeq (kSeq (kPu (eMv v0) w78 (kPu (eGen (.lenS t78)) w79 (kPu (eBin fLss .lss (nat_lit 0) v79 (gC (n6 (nat_lit 2)))) w80 (kPu (eMv v80) w81 (kGd v81 false (kPu (eMv v0) w82) w82 (kGd v81 false (kPu (eIdxS v82 (gC (n6 (nat_lit 1)))) w83) w83 (kGd v81 false (kPu (eFieldA (nat_lit 0) v6) w84) w84 (kGd v81 false (kRd (eLd1 v84) w85) w85 (kGd v81 false (kPu (eBin fLss .lss (nat_lit 0) v83 v85) w86) w86 (kPu (eGen (.pick t81 (.c (.b true)) t86)) w87 (kPu (eMv v87) w88 (kGd v88 false (kPu (eFieldA (nat_lit 1) v6) w89) w89 (kGd v88 false (kRd (eLd1 v89) w90) w90 (kGd v88 false (kPu (eMv v0) w91) w91 (kGd v88 false (kPu (eIdxS v91 (gC (n6 (nat_lit 1)))) w92) w92 (kGd v88 false (kPu (eBin fLss .lss (nat_lit 0) v90 v92) w93) w93 (kPu (eGen (.pick t88 (.c (.b true)) t93)) w94 kEnd)))))))))))))))))
 (kCond v94 (kSeq (kPu (eMv (gC (.b false))) w2 kEnd)
 kRt) kEnd))
 (kPu (eMv v0) w95 (kPu (eGen (.slStr t95 (some (.c (n6 (nat_lit 2)))) none)) w96 (kPu (eMv v96) w0 kEnd)))) (kSeq (kPu (eBin fEql .eql (nat_lit 0) v75 (gC (n6 (nat_lit 3)))) w98 (kPu (eMv v98) w97 kEnd))
 (kCond v97 (kSeq (kSeq (kPu (eMv v0) w99 (kPu (eGen (.lenS t99)) w100 (kPu (eBin fLss .lss (nat_lit 0) v100 (gC (n6 (nat_lit 3)))) w101 (kPu (eMv v101) w102 (kGd v102 false (kPu (eMv v0) w103) w103 (kGd v102 false (kPu (eIdxS v103 (gC (n6 (nat_lit 1)))) w104) w104 (kGd v102 false (kPu (eFieldA (nat_lit 0) v6) w105) w105 (kGd v102 false (kRd (eLd1 v105) w106) w106 (kGd v102 false (kPu (eBin fLss .lss (nat_lit 0) v104 v106) w107) w107 (kPu (eGen (.pick t102 (.c (.b true)) t107)) w108 (kPu (eMv v108) w109 (kGd v109 false (kPu (eFieldA (nat_lit 1) v6) w110) w110 (kGd v109 false (kRd (eLd1 v110) w111) w111 (kGd v109 false (kPu (eMv v0) w112) w112 (kGd v109 false (kPu (eIdxS v112 (gC (n6 (nat_lit 1)))) w113) w113 (kGd v109 false (kPu (eBin fLss .lss (nat_lit 0) v111 v113) w114) w114 (kPu (eGen (.pick t109 (.c (.b true)) t114)) w115 (kPu (eMv v115) w116 (kGd v116 false (kPu (eMv v0) w117) w117 (kGd v116 false (kPu (eIdxS v117 (gC (n6 (nat_lit 2)))) w118) w118 (kGd v116 false (kPu (eBin fLss .lss (nat_lit 0) v118 (gC (n8 (nat_lit 128)))) w119) w119 (kPu (eGen (.pick t116 (.c (.b true)) t119)) w120 (kPu (eMv v120) w121 (kGd v121 false (kPu (eMv v0) w122) w122 (kGd v121 false (kPu (eIdxS v122 (gC (n6 (nat_lit 2)))) w123) w123 (kGd v121 false (kPu (eBin fLss .lss (nat_lit 0) (gC (n8 (nat_lit 191))) v123) w124) w124 (kPu (eGen (.pick t121 (.c (.b true)) t124)) w125 kEnd)))))))))))))))))))))))))))
 (kCond v125 (kSeq (kPu (eMv (gC (.b false))) w2 kEnd)
 kRt) kEnd))
 (kPu (eMv v0) w126 (kPu (eGen (.slStr t126 (some (.c (n6 (nat_lit 3)))) none)) w127 (kPu (eMv v127) w0 kEnd)))) (kSeq (kPu (eBin fEql .eql (nat_lit 0) v75 (gC (n6 (nat_lit 4)))) w129 (kPu (eMv v129) w128 kEnd))
 (kCond v128 (kSeq (kSeq (kPu (eMv v0) w130 (kPu (eGen (.lenS t130)) w131 (kPu (eBin fLss .lss (nat_lit 0) v131 (gC (n6 (nat_lit 4)))) w132 (kPu (eMv v132) w133 (kGd v133 false (kPu (eMv v0) w134) w134 (kGd v133 false (kPu (eIdxS v134 (gC (n6 (nat_lit 1)))) w135) w135 (kGd v133 false (kPu (eFieldA (nat_lit 0) v6) w136) w136 (kGd v133 false (kRd (eLd1 v136) w137) w137 (kGd v133 false (kPu (eBin fLss .lss (nat_lit 0) v135 v137) w138) w138 (kPu (eGen (.pick t133 (.c (.b true)) t138)) w139 (kPu (eMv v139) w140 (kGd v140 false (kPu (eFieldA (nat_lit 1) v6) w141) w141 (kGd v140 false (kRd (eLd1 v141) w142) w142 (kGd v140 false (kPu (eMv v0) w143) w143 (kGd v140 false (kPu (eIdxS v143 (gC (n6 (nat_lit 1)))) w144) w144 (kGd v140 false (kPu (eBin fLss .lss (nat_lit 0) v142 v144) w145) w145 (kPu (eGen (.pick t140 (.c (.b true)) t145)) w146 (kPu (eMv v146) w147 (kGd v147 false (kPu (eMv v0) w148) w148 (kGd v147 false (kPu (eIdxS v148 (gC (n6 (nat_lit 2)))) w149) w149 (kGd v147 false (kPu (eBin fLss .lss (nat_lit 0) v149 (gC (n8 (nat_lit 128)))) w150) w150 (kPu (eGen (.pick t147 (.c (.b true)) t150)) w151 (kPu (eMv v151) w152 (kGd v152 false (kPu (eMv v0) w153) w153 (kGd v152 false (kPu (eIdxS v153 (gC (n6 (nat_lit 2)))) w154) w154 (kGd v152 false (kPu (eBin fLss .lss (nat_lit 0) (gC (n8 (nat_lit 191))) v154) w155) w155 (kPu (eGen (.pick t152 (.c (.b true)) t155)) w156 (kPu (eMv v156) w157 (kGd v157 false (kPu (eMv v0) w158) w158 (kGd v157 false (kPu (eIdxS v158 (gC (n6 (nat_lit 3)))) w159) w159 (kGd v157 false (kPu (eBin fLss .lss (nat_lit 0) v159 (gC (n8 (nat_lit 128)))) w160) w160 (kPu (eGen (.pick t157 (.c (.b true)) t160)) w161 (kPu (eMv v161) w162 (kGd v162 false (kPu (eMv v0) w163) w163 (kGd v162 false (kPu (eIdxS v163 (gC (n6 (nat_lit 3)))) w164) w164 (kGd v162 false (kPu (eBin fLss .lss (nat_lit 0) (gC (n8 (nat_lit 191))) v164) w165) w165 (kPu (eGen (.pick t162 (.c (.b true)) t165)) w166 kEnd)))))))))))))))))))))))))))))))))))))
 (kCond v166 (kSeq (kPu (eMv (gC (.b false))) w2 kEnd)
 kRt) kEnd))
 (kPu (eMv v0) w167 (kPu (eGen (.slStr t167 (some (.c (n6 (nat_lit 4)))) none)) w168 (kPu (eMv v168) w0 kEnd)))) (kSeq (kPu (eMv (gC (.b false))) w2 kEnd)
 kRt))))))))))))))))))
 (kSeq (kPu (eMv (gC (.b true))) w2 kEnd)
 kRt))), none⟩
noncomputable def G59 : G := ⟨(nat_lit 9), Tr.fill undefV (nat_lit 9) (nat_lit 9), (rOne v4), (kSeq (kAl (eA (.box t0 (nat_lit 35))) w2 (kAl (eA (.box t1 (nat_lit 35))) w3 (kPu (eMv (gC (.b false))) w4 kEnd)))
 (kSeq (kAl (eA (.alloc [(n6 (nat_lit 0))] (nat_lit 3))) w5 (kHv (eSt1 v5 (gC (n6 (nat_lit 65536)))) s0 kEnd))
 (kSeq (kRd (eLdA (nat_lit 7) v2) w6 (kRd (eLdA (nat_lit 7) v3) w7 (kCall q77 [v6, v7, v5] w8 (kPu (eMv v8) w4 kEnd))))
 kRt))), none⟩
noncomputable def G61 : G := ⟨(nat_lit 9), Tr.fill undefV (nat_lit 9) (nat_lit 9), (rOne v2), (kSeq (kPu (eMv (gC (.b false))) w2 kEnd)
 (kSeq (kPu (eMv v0) w3 (kPu (eBin fGeq .geq (nat_lit 0) v3 (gC (n6 (nat_lit 0)))) w4 (kPu (eMv v4) w5 (kGd v5 true (kPu (eMv v0) w6) w6 (kGd v5 true (kPu (eBin fLeq .leq (nat_lit 0) v6 (gC (n6 (nat_lit 1152921504606846976)))) w7) w7 (kPu (eGen (.pick t5 t7 (.c (.b false)))) w8 (kPu (eMv v8) w2 kEnd)))))))
 kRt)), none⟩
noncomputable def G72 : G := ⟨(nat_lit 13), Tr.fill undefV (nat_lit 13) (nat_lit 13), (rGen [(.t q4), (.t q5), (.t q6)]), (kSeq (kPu (eMv (gC (.s []))) w4 (kPu (eMv (gC (.s []))) w5 (kPu (eMv (gC (.b false))) w6 kEnd)))
 (kSeq (kPu (eMv v0) w7 (kPu (eMv v1) w8 (kCall q82 [v7, v8] w9 (kPu (eExt (nat_lit 0) v9) w10 (kPu (eExt (nat_lit 1) v9) w11 (kPu (eExt (nat_lit 2) v9) w12 (kPu (eMv v10) w4 (kPu (eMv v11) w5 (kPu (eMv v12) w6 kEnd)))))))))
 kRt)), none⟩
noncomputable def G73 : G := ⟨(nat_lit 11), Tr.fill undefV (nat_lit 11) (nat_lit 11), (rGen [(.t q4), (.t q5)]), (kSeq (kPu (eMv (gC (.s []))) w4 (kPu (eMv (gC (.b false))) w5 kEnd))
 (kSeq (kPu (eMv v0) w6 (kPu (eMv v1) w7 (kCall q83 [v6, v7] w8 (kPu (eExt (nat_lit 0) v8) w9 (kPu (eExt (nat_lit 1) v8) w10 (kPu (eMv v9) w4 (kPu (eMv v10) w5 kEnd)))))))
 kRt)), none⟩
noncomputable def G74 : G := ⟨(nat_lit 28), Tr.fill undefV (nat_lit 28) (nat_lit 28), (rOne v4), (kSeq (kPu (eMv (gC (n6 (nat_lit 0)))) w4 kEnd)
 (kSeq (kPu (eMv v0) w8 (kCall q84 [v8, (gC (n6 (nat_lit 10))), (gC (n6 (nat_lit 62)))] w9 (kPu (eMv v9) w7 (kPu (eExt (nat_lit 0) v7) w10 (kPu (eExt (nat_lit 1) v7) w11 (kPu (eMv v10) w5 (kPu (eMv v11) w6 kEnd)))))))
 (kSeq (kSeq (kPu (eMv v6) w12 (kPu (eBin fNeq .neq (nat_lit 9) v12 (gC .i0)) w13 (kPu (eMv v13) w14 (kGd v14 false (kPu (eMv v5) w15) w15 (kGd v14 false (kCall q85 [v15, (gC (n6 (nat_lit 10)))] w16) w16 (kGd v14 false (kPu (eMv v0) w17) w17 (kGd v14 false (kPu (eBin fNeq .neq (nat_lit 0) v16 v17) w18) w18 (kPu (eGen (.pick t14 (.c (.b true)) t18)) w19 (kPu (eMv v19) w20 (kGd v20 false (kPu (eMv v5) w21) w21 (kGd v20 false (kPu (eConv .i64 v21) w22) w22 (kGd v20 false (kPu (eMv v1) w23) w23 (kGd v20 false (kPu (eBin fGtr .gtr (nat_lit 0) v22 v23) w24) w24 (kPu (eGen (.pick t20 (.c (.b true)) t24)) w25 kEnd))))))))))))))
 (kCond v25 (kSeq (kPu (eMv (gC (.i .i64 (.negSucc (nat_lit 0))))) w4 kEnd)
 kRt) kEnd))
 (kSeq (kPu (eMv v5) w26 (kPu (eConv .i64 v26) w27 (kPu (eMv v27) w4 kEnd)))
 kRt)))), none⟩
noncomputable def G77 : G := ⟨(nat_lit 109), Tr.fill undefV (nat_lit 109) (nat_lit 109), (rOne v6), (kSeq (kAl (eA (.box t0 (nat_lit 35))) w3 (kAl (eA (.box t1 (nat_lit 35))) w4 (kPu (eMv (gC (.b false))) w6 kEnd)))
 (kSeq (kSeq (kPu (eMv v2) w9 (kPu (eNil v9) w10 (kRd (eLd1 v10) w11 (kPu (eBin fSub .sub (nat_lit 0) v11 (gC (n6 (nat_lit 1)))) w12 (kPu (eNil v9) w13 (kHv (eSt1 v13 v12) s0 kEnd))))))
 (kSeq (kPu (eMv v2) w14 (kPu (eNil v14) w15 (kRd (eLd1 v15) w16 (kPu (eBin fLss .lss (nat_lit 0) v16 (gC (n6 (nat_lit 0)))) w17 (kPu (eMv v17) w18 (kGd v18 false (kPu (eFieldA (nat_lit 0) v3) w19) w19 (kGd v18 false (kRd (eLd1 v19) w20) w20 (kGd v18 false (kPu (eFieldA (nat_lit 0) v4) w21) w21 (kGd v18 false (kRd (eLd1 v21) w22) w22 (kGd v18 false (kPu (eBin fNeq .neq (nat_lit 0) v20 v22) w23) w23 (kPu (eGen (.pick t18 (.c (.b true)) t23)) w24 (kPu (eMv v24) w25 (kGd v25 false (kPu (eFieldA (nat_lit 1) v3) w26) w26 (kGd v25 false (kRd (eLd1 v26) w27) w27 (kGd v25 false (kPu (eFieldA (nat_lit 1) v4) w28) w28 (kGd v25 false (kRd (eLd1 v28) w29) w29 (kGd v25 false (kPu (eBin fNeq .neq (nat_lit 0) v27 v29) w30) w30 (kPu (eGen (.pick t25 (.c (.b true)) t30)) w31 (kPu (eMv v31) w32 (kGd v32 false (kPu (eFieldA (nat_lit 2) v3) w33) w33 (kGd v32 false (kRd (eLd1 v33) w34) w34 (kGd v32 false (kPu (eFieldA (nat_lit 2) v4) w35) w35 (kGd v32 false (kRd (eLd1 v35) w36) w36 (kGd v32 false (kPu (eBin fNeq .neq (nat_lit 0) v34 v36) w37) w37 (kPu (eGen (.pick t32 (.c (.b true)) t37)) w38 (kPu (eMv v38) w39 (kGd v39 false (kPu (eFieldA (nat_lit 3) v3) w40) w40 (kGd v39 false (kRd (eLd1 v40) w41) w41 (kGd v39 false (kPu (eFieldA (nat_lit 3) v4) w42) w42 (kGd v39 false (kRd (eLd1 v42) w43) w43 (kGd v39 false (kPu (eBin fNeq .neq (nat_lit 3) v41 v43) w44) w44 (kPu (eGen (.pick t39 (.c (.b true)) t44)) w45 (kPu (eMv v45) w46 (kGd v46 false (kPu (eFieldA (nat_lit 4) v3) w47) w47 (kGd v46 false (kRd (eLd1 v47) w48) w48 (kGd v46 false (kPu (eFieldA (nat_lit 4) v4) w49) w49 (kGd v46 false (kRd (eLd1 v49) w50) w50 (kGd v46 false (kPu (eBin fNeq .neq (nat_lit 0) v48 v50) w51) w51 (kPu (eGen (.pick t46 (.c (.b true)) t51)) w52 (kPu (eMv v52) w53 (kGd v53 false (kPu (eFieldA (nat_lit 5) v3) w54) w54 (kGd v53 false (kRd (eLd1 v54) w55) w55 (kGd v53 false (kPu (eLenSl v55) w56) w56 (kGd v53 false (kPu (eFieldA (nat_lit 5) v4) w57) w57 (kGd v53 false (kRd (eLd1 v57) w58) w58 (kGd v53 false (kPu (eLenSl v58) w59) w59 (kGd v53 false (kPu (eBin fNeq .neq (nat_lit 0) v56 v59) w60) w60 (kPu (eGen (.pick t53 (.c (.b true)) t60)) w61 (kPu (eMv v61) w62 (kGd v62 false (kPu (eFieldA (nat_lit 6) v3) w63) w63 (kGd v62 false (kRd (eLd1 v63) w64) w64 (kGd v62 false (kPu (eLenSl v64) w65) w65 (kGd v62 false (kPu (eFieldA (nat_lit 6) v4) w66) w66 (kGd v62 false (kRd (eLd1 v66) w67) w67 (kGd v62 false (kPu (eLenSl v67) w68) w68 (kGd v62 false (kPu (eBin fNeq .neq (nat_lit 0) v65 v68) w69) w69 (kPu (eGen (.pick t62 (.c (.b true)) t69)) w70 kEnd)))))))))))))))))))))))))))))))))))))))))))))))))))))))))
 (kCond v70 (kSeq (kPu (eMv (gC (.b false))) w6 kEnd)
 kRt) kEnd)))
 (kSeq (kSeq (kPu (eFieldA (nat_lit 5) v3) w71 (kRd (eLd1 v71) w72 (kPu (eLenSl v72) w73 (kPu (eMv (gC (n6 (nat_lit 0)))) w74 kEnd))))
 (kBlock (nat_lit 0) (kLoop (kSeq (kPu (eBin fLss .lss (nat_lit 0) v74 v73) w75 kEnd)
 (kSeq (kCond v75 kEnd (kExit (nat_lit 0)))
 (kSeq (kBlock (nat_lit 1) (kSeq (kPu (eMv v74) w76 (kPu (eMv v76) w7 kEnd))
 (kSeq (kPu (eFieldA (nat_lit 5) v3) w77 (kRd (eLd1 v77) w78 (kPu (eMv v7) w79 (kPu (eIdxA (nat_lit 5) v78 v79) w80 (kRd (eLdA (nat_lit 5) v80) w81 (kPu (eFieldA (nat_lit 5) v4) w82 (kRd (eLd1 v82) w83 (kPu (eMv v7) w84 (kPu (eIdxA (nat_lit 5) v83 v84) w85 (kRd (eLdA (nat_lit 5) v85) w86 (kPu (eGen (.eqS true [(nat_lit 2), (nat_lit 1), (nat_lit 1), (nat_lit 0), (nat_lit 0)] t81 t86)) w87 kEnd)))))))))))
 (kCond v87 (kSeq (kPu (eMv (gC (.b false))) w6 kEnd)
 kRt) kEnd))))
 (kPu (eBin fAdd .add (nat_lit 0) v74 (gC (n6 (nat_lit 1)))) w88 (kPu (eMv v88) w74 kEnd))))))))
 (kSeq (kSeq (kPu (eFieldA (nat_lit 6) v3) w89 (kRd (eLd1 v89) w90 (kPu (eLenSl v90) w91 (kPu (eMv (gC (n6 (nat_lit 0)))) w92 kEnd))))
 (kBlock (nat_lit 2) (kLoop (kSeq (kPu (eBin fLss .lss (nat_lit 0) v92 v91) w93 kEnd)
 (kSeq (kCond v93 kEnd (kExit (nat_lit 2)))
 (kSeq (kBlock (nat_lit 3) (kSeq (kPu (eMv v92) w94 (kPu (eMv v94) w8 kEnd))
 (kSeq (kPu (eFieldA (nat_lit 6) v3) w95 (kRd (eLd1 v95) w96 (kPu (eMv v8) w97 (kPu (eIdxA (nat_lit 7) v96 v97) w98 (kRd (eLdA (nat_lit 7) v98) w99 (kPu (eFieldA (nat_lit 6) v4) w100 (kRd (eLd1 v100) w101 (kPu (eMv v8) w102 (kPu (eIdxA (nat_lit 7) v101 v102) w103 (kRd (eLdA (nat_lit 7) v103) w104 (kPu (eMv v2) w105 (kCall q77 [v99, v104, v105] w106 (kPu (eGen (.un .not t106)) w107 kEnd)))))))))))))
 (kCond v107 (kSeq (kPu (eMv (gC (.b false))) w6 kEnd)
 kRt) kEnd))))
 (kPu (eBin fAdd .add (nat_lit 0) v92 (gC (n6 (nat_lit 1)))) w108 (kPu (eMv v108) w92 kEnd))))))))
 (kSeq (kPu (eMv (gC (.b true))) w6 kEnd)
 kRt))))), none⟩
noncomputable def G82 : G := ⟨(nat_lit 23), Tr.fill undefV (nat_lit 23) (nat_lit 23), (rGen [(.t q4), (.t q5), (.t q6)]), (kSeq (kPu (eMv (gC (.s []))) w4 (kPu (eMv (gC (.s []))) w5 (kPu (eMv (gC (.b false))) w6 kEnd)))
 (kSeq (kSeq (kPu (eMv v0) w8 (kPu (eMv v1) w9 (kCall q108 [v8, v9] w10 (kPu (eMv v10) w7 kEnd))))
 (kSeq (kPu (eMv v7) w11 (kPu (eBin fGeq .geq (nat_lit 0) v11 (gC (n6 (nat_lit 0)))) w12 kEnd))
 (kCond v12 (kSeq (kPu (eMv v0) w13 (kPu (eMv v7) w14 (kPu (eGen (.slStr t13 none (some t14))) w15 (kPu (eMv v0) w16 (kPu (eMv v7) w17 (kPu (eMv v1) w18 (kPu (eGen (.lenS t18)) w19 (kPu (eBin fAdd .add (nat_lit 0) v17 v19) w20 (kPu (eGen (.slStr t16 (some t20) none)) w21 (kPu (eMv v15) w4 (kPu (eMv v21) w5 (kPu (eMv (gC (.b true))) w6 kEnd))))))))))))
 kRt) kEnd)))
 (kSeq (kPu (eMv v0) w22 (kPu (eMv v22) w4 (kPu (eMv (gC (.s []))) w5 (kPu (eMv (gC (.b false))) w6 kEnd))))
 kRt))), none⟩
noncomputable def G83 : G := ⟨(nat_lit 15), Tr.fill undefV (nat_lit 15) (nat_lit 15), (rGen [(.t q4), (.t q5)]), (kSeq (kPu (eMv (gC (.s []))) w4 (kPu (eMv (gC (.b false))) w5 kEnd))
 (kSeq (kSeq (kPu (eMv v0) w6 (kPu (eMv v1) w7 (kCall q109 [v6, v7] w8 (kPu (eGen (.un .not t8)) w9 kEnd))))
 (kCond v9 (kSeq (kPu (eMv v0) w10 (kPu (eMv v10) w4 (kPu (eMv (gC (.b false))) w5 kEnd)))
 kRt) kEnd))
 (kSeq (kPu (eMv v0) w11 (kPu (eMv v1) w12 (kPu (eGen (.lenS t12)) w13 (kPu (eGen (.slStr t11 (some t13) none)) w14 (kPu (eMv v14) w4 (kPu (eMv (gC (.b true))) w5 kEnd))))))
 kRt))), none⟩
noncomputable def G84 : G := ⟨(nat_lit 26), Tr.fill undefV (nat_lit 26) (nat_lit 26), (rGen [(.t q6), (.t q7)]), (kSeq (kPu (eMv (gC (.i .u64 (.ofNat (nat_lit 0))))) w6 (kPu (eMv (gC .i0)) w7 kEnd))
 (kSeq (kPu (eMv v0) w11 (kPu (eMv v1) w12 (kPu (eMv v2) w13 (kCall q110 [v11, v12, v13] w14 (kPu (eMv v14) w10 (kPu (eExt (nat_lit 0) v10) w15 (kPu (eExt (nat_lit 1) v10) w16 (kPu (eMv v15) w8 (kPu (eMv v16) w9 kEnd)))))))))
 (kSeq (kSeq (kPu (eMv v9) w17 (kPu (eBin fNeq .neq (nat_lit 9) v17 (gC .i0)) w18 kEnd))
 (kCond v18 (kSeq (kPu (eMv v8) w19 (kPu (eMv v0) w20 (kPu (eMv v1) w21 (kPu (eMv v2) w22 (kPu (eMv v9) w23 (kCall q111 [(gC (.s [(nat_lit 80), (nat_lit 97), (nat_lit 114), (nat_lit 115), (nat_lit 101), (nat_lit 85), (nat_lit 105), (nat_lit 110), (nat_lit 116)])), v20, v21, v22, v23] w24 (kPu (eMv v19) w6 (kPu (eMv v24) w7 kEnd))))))))
 kRt) kEnd))
 (kSeq (kPu (eMv v8) w25 (kPu (eMv v25) w6 (kPu (eMv (gC .i0)) w7 kEnd)))
 kRt)))), none⟩
noncomputable def G85 : G := ⟨(nat_lit 8), Tr.fill undefV (nat_lit 8) (nat_lit 8), (rOne v4), (kSeq (kPu (eMv (gC (.s []))) w4 kEnd)
 (kSeq (kPu (eMv v0) w5 (kPu (eMv v1) w6 (kCall q112 [v5, v6] w7 (kPu (eMv v7) w4 kEnd))))
 kRt)), none⟩
noncomputable def G108 : G := ⟨(nat_lit 143), Tr.fill undefV (nat_lit 143) (nat_lit 143), (rOne v4), (kSeq (kPu (eMv (gC (n6 (nat_lit 0)))) w4 kEnd)
 (kSeq (kPu (eMv v1) w14 (kPu (eGen (.lenS t14)) w15 (kPu (eMv v15) w5 kEnd)))
 (kSeq (kBlock (nat_lit 0) (kSeq (kPu (eMv v5) w17 (kPu (eBin fEql .eql (nat_lit 0) v17 (gC (n6 (nat_lit 0)))) w18 (kPu (eMv v18) w19 (kGd v19 false (kPu (eMv v1) w20) w20 (kGd v19 false (kPu (eMv v0) w21) w21 (kGd v19 false (kPu (eBin fEql .eql (nat_lit 0) v20 v21) w22) w22 (kPu (eGen (.pick t19 (.c (.b true)) t22)) w23 (kPu (eMv v23) w16 kEnd))))))))
 (kCond v16 (kSeq (kPu (eMv (gC (n6 (nat_lit 0)))) w4 kEnd)
 kRt) (kSeq (kPu (eMv v5) w25 (kPu (eBin fEql .eql (nat_lit 0) v25 (gC (n6 (nat_lit 1)))) w26 (kPu (eMv v26) w24 kEnd)))
 (kCond v24 (kSeq (kPu (eMv v0) w27 (kPu (eMv v1) w28 (kPu (eIdxS v28 (gC (n6 (nat_lit 0)))) w29 (kCall q127 [v27, v29] w30 (kPu (eMv v30) w4 kEnd)))))
 kRt) (kSeq (kPu (eMv v5) w32 (kPu (eMv v0) w33 (kPu (eGen (.lenS t33)) w34 (kPu (eBin fGeq .geq (nat_lit 0) v32 v34) w35 (kPu (eMv v35) w31 kEnd)))))
 (kCond v31 (kSeq (kPu (eMv (gC (.i .i64 (.negSucc (nat_lit 0))))) w4 kEnd)
 kRt) (kSeq (kPu (eMv v5) w37 (kBad1 (kPu (eBin fLeq .leq (nat_lit 0) v37 v38) w39 (kPu (eMv v39) w40 (kGd v40 true (kPu (eMv v0) w41) w41 (kGd v40 true (kPu (eGen (.lenS t41)) w42) w42 (kGd v40 true (kPu (eBin fLeq .leq (nat_lit 0) v42 (gC (n6 (nat_lit 64)))) w43) w43 (kPu (eGen (.pick t40 t43 (.c (.b false)))) w44 (kPu (eMv v44) w36 kEnd)))))))))
 (kCond v36 (kSeq (kPu (eMv v0) w45 (kPu (eMv v1) w46 (kCall q128 [v45, v46] w47 (kPu (eMv v47) w4 kEnd))))
 kRt) kEnd)))))))))
 (kSeq (kPu (eMv v1) w48 (kPu (eIdxS v48 (gC (n6 (nat_lit 0)))) w49 (kPu (eMv v49) w6 kEnd)))
 (kSeq (kPu (eMv v1) w50 (kPu (eIdxS v50 (gC (n6 (nat_lit 1)))) w51 (kPu (eMv v51) w7 kEnd)))
 (kSeq (kPu (eMv (gC (n6 (nat_lit 0)))) w8 kEnd)
 (kSeq (kPu (eMv v0) w52 (kPu (eGen (.lenS t52)) w53 (kPu (eMv v5) w54 (kPu (eBin fSub .sub (nat_lit 0) v53 v54) w55 (kPu (eBin fAdd .add (nat_lit 0) v55 (gC (n6 (nat_lit 1)))) w56 (kPu (eMv v56) w9 kEnd))))))
 (kSeq (kPu (eMv (gC (n6 (nat_lit 0)))) w10 kEnd)
 (kSeq (kBlock (nat_lit 1) (kLoop (kSeq (kSeq (kPu (eMv v8) w57 (kPu (eMv v9) w58 (kPu (eBin fLss .lss (nat_lit 0) v57 v58) w59 kEnd)))
 (kCond v59 kEnd (kExit (nat_lit 1))))
 (kBlock (nat_lit 2) (kSeq (kSeq (kPu (eMv v0) w60 (kPu (eMv v8) w61 (kPu (eIdxS v60 v61) w62 (kPu (eMv v6) w63 (kPu (eBin fNeq .neq (nat_lit 0) v62 v63) w64 kEnd)))))
 (kCond v64 (kSeq (kPu (eMv v0) w65 (kPu (eMv v8) w66 (kPu (eBin fAdd .add (nat_lit 0) v66 (gC (n6 (nat_lit 1)))) w67 (kPu (eMv v9) w68 (kPu (eGen (.slStr t65 (some t67) (some t68))) w69 (kPu (eMv v6) w70 (kCall q127 [v69, v70] w71 (kPu (eMv v71) w11 kEnd))))))))
 (kSeq (kSeq (kPu (eMv v11) w72 (kPu (eBin fLss .lss (nat_lit 0) v72 (gC (n6 (nat_lit 0)))) w73 kEnd))
 (kCond v73 (kSeq (kPu (eMv (gC (.i .i64 (.negSucc (nat_lit 0))))) w4 kEnd)
 kRt) kEnd))
 (kPu (eMv v8) w74 (kPu (eMv v11) w75 (kPu (eBin fAdd .add (nat_lit 0) v75 (gC (n6 (nat_lit 1)))) w76 (kPu (eBin fAdd .add (nat_lit 0) v74 v76) w77 (kPu (eMv v77) w8 kEnd))))))) kEnd))
 (kSeq (kSeq (kPu (eMv v0) w78 (kPu (eMv v8) w79 (kPu (eBin fAdd .add (nat_lit 0) v79 (gC (n6 (nat_lit 1)))) w80 (kPu (eIdxS v78 v80) w81 (kPu (eMv v7) w82 (kPu (eBin fEql .eql (nat_lit 0) v81 v82) w83 (kPu (eMv v83) w84 (kGd v84 true (kPu (eMv v0) w85) w85 (kGd v84 true (kPu (eMv v8) w86) w86 (kGd v84 true (kPu (eMv v8) w87) w87 (kGd v84 true (kPu (eMv v5) w88) w88 (kGd v84 true (kPu (eBin fAdd .add (nat_lit 0) v87 v88) w89) w89 (kGd v84 true (kPu (eGen (.slStr t85 (some t86) (some t89))) w90) w90 (kGd v84 true (kPu (eMv v1) w91) w91 (kGd v84 true (kPu (eBin fEql .eql (nat_lit 0) v90 v91) w92) w92 (kPu (eGen (.pick t84 t92 (.c (.b false)))) w93 kEnd))))))))))))))))
 (kCond v93 (kSeq (kPu (eMv v8) w94 (kPu (eMv v94) w4 kEnd))
 kRt) kEnd))
 (kSeq (kPu (eMv v8) w95 (kPu (eBin fAdd .add (nat_lit 0) v95 (gC (n6 (nat_lit 1)))) w96 (kPu (eMv v96) w8 kEnd)))
 (kSeq (kPu (eMv v10) w97 (kPu (eBin fAdd .add (nat_lit 0) v97 (gC (n6 (nat_lit 1)))) w98 (kPu (eMv v98) w10 kEnd)))
 (kSeq (kPu (eMv v5) w99 (kBad1 (kPu (eBin fLeq .leq (nat_lit 0) v99 v100) w101 (kPu (eMv v101) w102 (kGd v102 true (kPu (eMv v10) w103) w103 (kGd v102 true (kPu (eMv v8) w104) w104 (kGd v102 true (kCall q129 [v104] w105) w105 (kGd v102 true (kPu (eBin fGtr .gtr (nat_lit 0) v103 v105) w106) w106 (kPu (eGen (.pick t102 t106 (.c (.b false)))) w107 kEnd)))))))))
 (kCond v107 (kSeq (kPu (eMv v0) w108 (kPu (eMv v8) w109 (kPu (eGen (.slStr t108 (some t109) none)) w110 (kPu (eMv v1) w111 (kCall q128 [v110, v111] w112 (kPu (eMv v112) w12 kEnd))))))
 (kSeq (kSeq (kPu (eMv v12) w113 (kPu (eBin fGeq .geq (nat_lit 0) v113 (gC (n6 (nat_lit 0)))) w114 kEnd))
 (kCond v114 (kSeq (kPu (eMv v12) w115 (kPu (eMv v8) w116 (kPu (eBin fAdd .add (nat_lit 0) v115 v116) w117 (kPu (eMv v117) w4 kEnd))))
 kRt) kEnd))
 (kSeq (kPu (eMv (gC (.i .i64 (.negSucc (nat_lit 0))))) w4 kEnd)
 kRt))) (kSeq (kPu (eMv v5) w118 (kBad1 (kPu (eBin fGtr .gtr (nat_lit 0) v118 v119) w120 (kPu (eMv v120) w121 (kGd v121 true (kPu (eMv v10) w122) w122 (kGd v121 true (kPu (eMv v8) w123) w123 (kGd v121 true (kPu (eBin fShr .shr (nat_lit 0) v123 (gC (.i .u64 (.ofNat (nat_lit 4))))) w124) w124 (kGd v121 true (kPu (eBin fAdd .add (nat_lit 0) (gC (n6 (nat_lit 4))) v124) w125) w125 (kGd v121 true (kPu (eBin fGeq .geq (nat_lit 0) v122 v125) w126) w126 (kPu (eGen (.pick t121 t126 (.c (.b false)))) w127 (kPu (eMv v127) w128 (kGd v128 true (kPu (eMv v8) w129) w129 (kGd v128 true (kPu (eMv v9) w130) w130 (kGd v128 true (kPu (eBin fLss .lss (nat_lit 0) v129 v130) w131) w131 (kPu (eGen (.pick t128 t131 (.c (.b false)))) w132 kEnd)))))))))))))))
 (kCond v132 (kSeq (kPu (eMv v0) w133 (kPu (eMv v8) w134 (kPu (eGen (.slStr t133 (some t134) none)) w135 (kPu (eMv v1) w136 (kCall q130 [v135, v136] w137 (kPu (eMv v137) w13 kEnd))))))
 (kSeq (kSeq (kPu (eMv v13) w138 (kPu (eBin fLss .lss (nat_lit 0) v138 (gC (n6 (nat_lit 0)))) w139 kEnd))
 (kCond v139 (kSeq (kPu (eMv (gC (.i .i64 (.negSucc (nat_lit 0))))) w4 kEnd)
 kRt) kEnd))
 (kSeq (kPu (eMv v8) w140 (kPu (eMv v13) w141 (kPu (eBin fAdd .add (nat_lit 0) v140 v141) w142 (kPu (eMv v142) w4 kEnd))))
 kRt))) kEnd))))))))))))
 (kSeq (kPu (eMv (gC (.i .i64 (.negSucc (nat_lit 0))))) w4 kEnd)
 kRt)))))))))), none⟩
noncomputable def G109 : G := ⟨(nat_lit 18), Tr.fill undefV (nat_lit 18) (nat_lit 18), (rOne v4), (kSeq (kPu (eMv (gC (.b false))) w4 kEnd)
 (kSeq (kPu (eMv v0) w5 (kPu (eGen (.lenS t5)) w6 (kPu (eMv v1) w7 (kPu (eGen (.lenS t7)) w8 (kPu (eBin fGeq .geq (nat_lit 0) v6 v8) w9 (kPu (eMv v9) w10 (kGd v10 true (kPu (eMv v0) w11) w11 (kGd v10 true (kPu (eMv v1) w12) w12 (kGd v10 true (kPu (eGen (.lenS t12)) w13) w13 (kGd v10 true (kPu (eGen (.slStr t11 none (some t13))) w14) w14 (kGd v10 true (kPu (eMv v1) w15) w15 (kGd v10 true (kPu (eBin fEql .eql (nat_lit 0) v14 v15) w16) w16 (kPu (eGen (.pick t10 t16 (.c (.b false)))) w17 (kPu (eMv v17) w4 kEnd))))))))))))))
 kRt)), none⟩
noncomputable def G110 : G := ⟨(nat_lit 172), Tr.fill undefV (nat_lit 172) (nat_lit 172), (rGen [(.t q6), (.t q7)]), (kSeq (kPu (eMv (gC (.i .u64 (.ofNat (nat_lit 0))))) w6 (kPu (eMv (gC .i0)) w7 kEnd))
 (kSeq (kSeq (kPu (eMv v0) w18 (kPu (eBin fEql .eql (nat_lit 0) v18 (gC (.s []))) w19 kEnd))
 (kCond v19 (kSeq (kPu (eGen (.mkI (nat_lit 162) (.c (n6 (nat_lit 2))))) w20 (kPu (eMv (gC (.i .u64 (.ofNat (nat_lit 0))))) w6 (kPu (eMv v20) w7 kEnd)))
 kRt) kEnd))
 (kSeq (kPu (eMv v1) w21 (kPu (eBin fEql .eql (nat_lit 0) v21 (gC (n6 (nat_lit 0)))) w22 (kPu (eMv v22) w8 kEnd)))
 (kSeq (kPu (eMv v0) w23 (kPu (eMv v23) w9 kEnd))
 (kSeq (kBlock (nat_lit 0) (kSeq (kPu (eMv v1) w26 (kPu (eBin fLeq .leq (nat_lit 0) (gC (n6 (nat_lit 2))) v26) w27 (kPu (eMv v27) w28 (kGd v28 true (kPu (eMv v1) w29) w29 (kGd v28 true (kPu (eBin fLeq .leq (nat_lit 0) v29 (gC (n6 (nat_lit 36)))) w30) w30 (kPu (eGen (.pick t28 t30 (.c (.b false)))) w31 (kPu (eMv v31) w25 kEnd)))))))
 (kCond v25 kEnd (kSeq (kPu (eMv v1) w33 (kPu (eBin fEql .eql (nat_lit 0) v33 (gC (n6 (nat_lit 0)))) w34 (kPu (eMv v34) w32 kEnd)))
 (kCond v32 (kSeq (kPu (eMv (gC (n6 (nat_lit 10)))) w1 kEnd)
 (kSeq (kPu (eMv v0) w35 (kPu (eIdxS v35 (gC (n6 (nat_lit 0)))) w36 (kPu (eBin fEql .eql (nat_lit 0) v36 (gC (n8 (nat_lit 48)))) w37 kEnd)))
 (kCond v37 (kBlock (nat_lit 1) (kSeq (kPu (eMv v0) w41 (kPu (eGen (.lenS t41)) w42 (kPu (eBin fGeq .geq (nat_lit 0) v42 (gC (n6 (nat_lit 3)))) w43 (kPu (eMv v43) w44 (kGd v44 true (kPu (eMv v0) w45) w45 (kGd v44 true (kPu (eIdxS v45 (gC (n6 (nat_lit 1)))) w46) w46 (kGd v44 true (kCall q131 [v46] w47) w47 (kGd v44 true (kPu (eBin fEql .eql (nat_lit 0) v47 (gC (n8 (nat_lit 98)))) w48) w48 (kPu (eGen (.pick t44 t48 (.c (.b false)))) w49 (kPu (eMv v49) w40 kEnd))))))))))
 (kCond v40 (kSeq (kPu (eMv (gC (n6 (nat_lit 2)))) w1 kEnd)
 (kPu (eMv v0) w50 (kPu (eGen (.slStr t50 (some (.c (n6 (nat_lit 2)))) none)) w51 (kPu (eMv v51) w0 kEnd)))) (kSeq (kPu (eMv v0) w53 (kPu (eGen (.lenS t53)) w54 (kPu (eBin fGeq .geq (nat_lit 0) v54 (gC (n6 (nat_lit 3)))) w55 (kPu (eMv v55) w56 (kGd v56 true (kPu (eMv v0) w57) w57 (kGd v56 true (kPu (eIdxS v57 (gC (n6 (nat_lit 1)))) w58) w58 (kGd v56 true (kCall q131 [v58] w59) w59 (kGd v56 true (kPu (eBin fEql .eql (nat_lit 0) v59 (gC (n8 (nat_lit 111)))) w60) w60 (kPu (eGen (.pick t56 t60 (.c (.b false)))) w61 (kPu (eMv v61) w52 kEnd))))))))))
 (kCond v52 (kSeq (kPu (eMv (gC (n6 (nat_lit 8)))) w1 kEnd)
 (kPu (eMv v0) w62 (kPu (eGen (.slStr t62 (some (.c (n6 (nat_lit 2)))) none)) w63 (kPu (eMv v63) w0 kEnd)))) (kSeq (kPu (eMv v0) w65 (kPu (eGen (.lenS t65)) w66 (kPu (eBin fGeq .geq (nat_lit 0) v66 (gC (n6 (nat_lit 3)))) w67 (kPu (eMv v67) w68 (kGd v68 true (kPu (eMv v0) w69) w69 (kGd v68 true (kPu (eIdxS v69 (gC (n6 (nat_lit 1)))) w70) w70 (kGd v68 true (kCall q131 [v70] w71) w71 (kGd v68 true (kPu (eBin fEql .eql (nat_lit 0) v71 (gC (n8 (nat_lit 120)))) w72) w72 (kPu (eGen (.pick t68 t72 (.c (.b false)))) w73 (kPu (eMv v73) w64 kEnd))))))))))
 (kCond v64 (kSeq (kPu (eMv (gC (n6 (nat_lit 16)))) w1 kEnd)
 (kPu (eMv v0) w74 (kPu (eGen (.slStr t74 (some (.c (n6 (nat_lit 2)))) none)) w75 (kPu (eMv v75) w0 kEnd)))) (kSeq (kPu (eMv (gC (n6 (nat_lit 8)))) w1 kEnd)
 (kPu (eMv v0) w38 (kPu (eGen (.slStr t38 (some (.c (n6 (nat_lit 1)))) none)) w39 (kPu (eMv v39) w0 kEnd))))))))))) kEnd))) (kSeq (kPu (eGen (.mkI (nat_lit 162) (.c (n6 (nat_lit 3))))) w24 (kPu (eMv (gC (.i .u64 (.ofNat (nat_lit 0))))) w6 (kPu (eMv v24) w7 kEnd)))
 kRt))))))
 (kSeq (kSeq (kPu (eMv v2) w76 (kPu (eBin fEql .eql (nat_lit 0) v76 (gC (n6 (nat_lit 0)))) w77 kEnd))
 (kCond v77 (kPu (eMv (gC (n6 (nat_lit 64)))) w2 kEnd) (kSeq (kPu (eMv v2) w78 (kPu (eBin fLss .lss (nat_lit 0) v78 (gC (n6 (nat_lit 0)))) w79 (kPu (eMv v79) w80 (kGd v80 false (kPu (eMv v2) w81) w81 (kGd v80 false (kPu (eBin fGtr .gtr (nat_lit 0) v81 (gC (n6 (nat_lit 64)))) w82) w82 (kPu (eGen (.pick t80 (.c (.b true)) t82)) w83 kEnd))))))
 (kCond v83 (kSeq (kPu (eGen (.mkI (nat_lit 162) (.c (n6 (nat_lit 4))))) w84 (kPu (eMv (gC (.i .u64 (.ofNat (nat_lit 0))))) w6 (kPu (eMv v84) w7 kEnd)))
 kRt) kEnd))))
 (kSeq (kPu (eMv (gC (.i .u64 (.ofNat (nat_lit 0))))) w10 kEnd)
 (kSeq (kSeq (kPu (eMv v1) w85 kEnd)
 (kBlock (nat_lit 2) (kSeq (kPu (eBin fEql .eql (nat_lit 0) v85 (gC (n6 (nat_lit 10)))) w91 (kPu (eMv v91) w90 kEnd))
 (kCond v90 (kPu (eMv (gC (.i .u64 (.ofNat (nat_lit 1844674407370955162))))) w10 kEnd) (kSeq (kPu (eBin fEql .eql (nat_lit 0) v85 (gC (n6 (nat_lit 16)))) w93 (kPu (eMv v93) w92 kEnd))
 (kCond v92 (kPu (eMv (gC (.i .u64 (.ofNat (nat_lit 1152921504606846976))))) w10 kEnd) (kPu (eMv v1) w86 (kPu (eConv .u64 v86) w87 (kPu (eBin fQuo .quo (nat_lit 0) (gC (.i .u64 (.ofNat (nat_lit 18446744073709551615)))) v87) w88 (kPu (eBin fAdd .add (nat_lit 0) v88 (gC (.i .u64 (.ofNat (nat_lit 1))))) w89 (kPu (eMv v89) w10 kEnd)))))))))))
 (kSeq (kPu (eMv v2) w94 (kPu (eConv .u64 v94) w95 (kPu (eBin fShl .shl (nat_lit 0) (gC (.i .u64 (.ofNat (nat_lit 1)))) v95) w96 (kPu (eBin fSub .sub (nat_lit 0) v96 (gC (.i .u64 (.ofNat (nat_lit 1))))) w97 (kPu (eMv v97) w11 kEnd)))))
 (kSeq (kPu (eMv (gC (.b false))) w12 kEnd)
 (kSeq (kPu (eMv (gC (.i .u64 (.ofNat (nat_lit 0))))) w13 kEnd)
 (kSeq (kSeq (kPu (eMv v0) w98 (kAl (eA (.s2b (nat_lit 5) t98)) w99 (kPu (eLenSl v99) w100 (kPu (eMv (gC (n6 (nat_lit 0)))) w101 kEnd))))
 (kBlock (nat_lit 3) (kLoop (kSeq (kPu (eBin fLss .lss (nat_lit 0) v101 v100) w102 kEnd)
 (kSeq (kCond v102 kEnd (kExit (nat_lit 3)))
 (kSeq (kBlock (nat_lit 4) (kSeq (kPu (eIdxA (nat_lit 1) v99 v101) w103 (kRd (eLd1 v103) w104 (kPu (eMv v104) w15 kEnd)))
 (kSeq (kPu (eMv (gC (n8 (nat_lit 0)))) w16 kEnd)
 (kSeq (kBlock (nat_lit 5) (kSeq (kPu (eMv v15) w107 (kPu (eBin fEql .eql (nat_lit 0) v107 (gC (n8 (nat_lit 95)))) w108 (kPu (eMv v108) w109 (kGd v109 true (kPu (eMv v8) w110) w110 (kPu (eGen (.pick t109 t110 (.c (.b false)))) w111 (kPu (eMv v111) w106 kEnd))))))
 (kCond v106 (kSeq (kPu (eMv (gC (.b true))) w12 kEnd)
 (kExit (nat_lit 4))) (kSeq (kPu (eMv v15) w113 (kPu (eBin fLeq .leq (nat_lit 0) (gC (n8 (nat_lit 48))) v113) w114 (kPu (eMv v114) w115 (kGd v115 true (kPu (eMv v15) w116) w116 (kGd v115 true (kPu (eBin fLeq .leq (nat_lit 0) v116 (gC (n8 (nat_lit 57)))) w117) w117 (kPu (eGen (.pick t115 t117 (.c (.b false)))) w118 (kPu (eMv v118) w112 kEnd)))))))
 (kCond v112 (kPu (eMv v15) w119 (kPu (eBin fSub .sub (nat_lit 0) v119 (gC (n8 (nat_lit 48)))) w120 (kPu (eMv v120) w16 kEnd))) (kSeq (kPu (eMv v15) w122 (kCall q131 [v122] w123 (kPu (eBin fLeq .leq (nat_lit 0) (gC (n8 (nat_lit 97))) v123) w124 (kPu (eMv v124) w125 (kGd v125 true (kPu (eMv v15) w126) w126 (kGd v125 true (kCall q131 [v126] w127) w127 (kGd v125 true (kPu (eBin fLeq .leq (nat_lit 0) v127 (gC (n8 (nat_lit 122)))) w128) w128 (kPu (eGen (.pick t125 t128 (.c (.b false)))) w129 (kPu (eMv v129) w121 kEnd)))))))))
 (kCond v121 (kPu (eMv v15) w130 (kCall q131 [v130] w131 (kPu (eBin fSub .sub (nat_lit 0) v131 (gC (n8 (nat_lit 97)))) w132 (kPu (eBin fAdd .add (nat_lit 0) v132 (gC (n8 (nat_lit 10)))) w133 (kPu (eMv v133) w16 kEnd))))) (kSeq (kPu (eGen (.mkI (nat_lit 162) (.c (n6 (nat_lit 2))))) w105 (kPu (eMv (gC (.i .u64 (.ofNat (nat_lit 0))))) w6 (kPu (eMv v105) w7 kEnd)))
 kRt))))))))
 (kSeq (kSeq (kPu (eMv v16) w134 (kPu (eMv v1) w135 (kPu (eConv .u8 v135) w136 (kPu (eBin fGeq .geq (nat_lit 0) v134 v136) w137 kEnd))))
 (kCond v137 (kSeq (kPu (eGen (.mkI (nat_lit 162) (.c (n6 (nat_lit 2))))) w138 (kPu (eMv (gC (.i .u64 (.ofNat (nat_lit 0))))) w6 (kPu (eMv v138) w7 kEnd)))
 kRt) kEnd))
 (kSeq (kSeq (kPu (eMv v13) w139 (kPu (eMv v10) w140 (kPu (eBin fGeq .geq (nat_lit 0) v139 v140) w141 kEnd)))
 (kCond v141 (kSeq (kPu (eMv v11) w142 (kPu (eGen (.mkI (nat_lit 162) (.c (n6 (nat_lit 1))))) w143 (kPu (eMv v142) w6 (kPu (eMv v143) w7 kEnd))))
 kRt) kEnd))
 (kSeq (kPu (eMv v13) w144 (kPu (eMv v1) w145 (kPu (eConv .u64 v145) w146 (kPu (eBin fMul .mul (nat_lit 0) v144 v146) w147 (kPu (eMv v147) w13 kEnd)))))
 (kSeq (kPu (eMv v13) w148 (kPu (eMv v16) w149 (kPu (eConv .u64 v149) w150 (kPu (eBin fAdd .add (nat_lit 0) v148 v150) w151 (kPu (eMv v151) w17 kEnd)))))
 (kSeq (kSeq (kPu (eMv v17) w152 (kPu (eMv v13) w153 (kPu (eBin fLss .lss (nat_lit 0) v152 v153) w154 (kPu (eMv v154) w155 (kGd v155 false (kPu (eMv v17) w156) w156 (kGd v155 false (kPu (eMv v11) w157) w157 (kGd v155 false (kPu (eBin fGtr .gtr (nat_lit 0) v156 v157) w158) w158 (kPu (eGen (.pick t155 (.c (.b true)) t158)) w159 kEnd))))))))
 (kCond v159 (kSeq (kPu (eMv v11) w160 (kPu (eGen (.mkI (nat_lit 162) (.c (n6 (nat_lit 1))))) w161 (kPu (eMv v160) w6 (kPu (eMv v161) w7 kEnd))))
 kRt) kEnd))
 (kPu (eMv v17) w162 (kPu (eMv v162) w13 kEnd)))))))))))
 (kPu (eBin fAdd .add (nat_lit 0) v101 (gC (n6 (nat_lit 1)))) w163 (kPu (eMv v163) w101 kEnd))))))))
 (kSeq (kSeq (kPu (eMv v12) w164 (kPu (eMv v164) w165 (kGd v165 true (kPu (eMv v9) w166) w166 (kGd v165 true (kCall q132 [v166] w167) w167 (kGd v165 true (kPu (eGen (.un .not t167)) w168) w168 (kPu (eGen (.pick t165 t168 (.c (.b false)))) w169 kEnd))))))
 (kCond v169 (kSeq (kPu (eGen (.mkI (nat_lit 162) (.c (n6 (nat_lit 2))))) w170 (kPu (eMv (gC (.i .u64 (.ofNat (nat_lit 0))))) w6 (kPu (eMv v170) w7 kEnd)))
 kRt) kEnd))
 (kSeq (kPu (eMv v13) w171 (kPu (eMv v171) w6 (kPu (eMv (gC .i0)) w7 kEnd)))
 kRt)))))))))))))), none⟩
noncomputable def G112 : G := ⟨(nat_lit 32), Tr.fill undefV (nat_lit 32) (nat_lit 32), (rOne v4), (kSeq (kPu (eMv (gC (.s []))) w4 kEnd)
 (kSeq (kSeq (kPu (eMv v1) w9 (kPu (eBin fEql .eql (nat_lit 0) v9 (gC (n6 (nat_lit 10)))) w10 kEnd))
 (kCond v10 (kSeq (kSeq (kPu (eMv v0) w11 (kPu (eBin fLss .lss (nat_lit 0) v11 (gC (.i .u64 (.ofNat (nat_lit 100))))) w12 kEnd))
 (kCond v12 (kSeq (kPu (eMv v0) w13 (kPu (eConv .i64 v13) w14 (kCall q137 [v14] w15 (kPu (eMv v15) w4 kEnd))))
 kRt) kEnd))
 (kSeq (kAl (eA (.alloc [(n8 (nat_lit 0)), (n8 (nat_lit 0)), (n8 (nat_lit 0)), (n8 (nat_lit 0)), (n8 (nat_lit 0)), (n8 (nat_lit 0)), (n8 (nat_lit 0)), (n8 (nat_lit 0)), (n8 (nat_lit 0)), (n8 (nat_lit 0)), (n8 (nat_lit 0)), (n8 (nat_lit 0)), (n8 (nat_lit 0)), (n8 (nat_lit 0)), (n8 (nat_lit 0)), (n8 (nat_lit 0)), (n8 (nat_lit 0)), (n8 (nat_lit 0)), (n8 (nat_lit 0)), (n8 (nat_lit 0)), (n8 (nat_lit 0)), (n8 (nat_lit 0)), (n8 (nat_lit 0)), (n8 (nat_lit 0))] (nat_lit 168))) w5 kEnd)
 (kSeq (kPu (eMv v0) w16 (kCall q138 [v16] w17 (kPu (eMv v17) w6 kEnd)))
 (kSeq (kPu (eMv v6) w18 (kRd (eRG (.slArr (nat_lit 24) (nat_lit 1) t5 none (some t18) none)) w19 (kPu (eMv v0) w20 (kCall q139 [v19, v20] w21 kEnd))))
 (kSeq (kPu (eMv v6) w22 (kRd (eRG (.slArr (nat_lit 24) (nat_lit 1) t5 none (some t22) none)) w23 (kRd (eRG (.b2s t23)) w24 (kPu (eMv v24) w4 kEnd))))
 kRt))))) kEnd))
 (kSeq (kPu (eMv v0) w26 (kPu (eMv v1) w27 (kCall q140 [(gC .sl0), v26, v27, (gC (.b false)), (gC (.b false))] w28 (kPu (eMv v28) w25 (kPu (eExt (nat_lit 0) v25) w29 (kPu (eExt (nat_lit 1) v25) w30 (kPu (eMv v29) w7 (kPu (eMv v30) w8 kEnd))))))))
 (kSeq (kPu (eMv v8) w31 (kPu (eMv v31) w4 kEnd))
 kRt)))), none⟩
noncomputable def G127 : G := ⟨(nat_lit 8), Tr.fill undefV (nat_lit 8) (nat_lit 8), (rOne v4), (kSeq (kPu (eMv (gC (n6 (nat_lit 0)))) w4 kEnd)
 (kSeq (kPu (eMv v0) w5 (kPu (eMv v1) w6 (kPu (eGen (.ixb t5 t6)) w7 (kPu (eMv v7) w4 kEnd))))
 kRt)), none⟩
noncomputable def G137 : G := ⟨(nat_lit 15), Tr.fill undefV (nat_lit 15) (nat_lit 15), (rOne v2), (kSeq (kPu (eMv (gC (.s []))) w2 kEnd)
 (kSeq (kSeq (kPu (eMv v0) w3 (kPu (eBin fLss .lss (nat_lit 0) v3 (gC (n6 (nat_lit 10)))) w4 kEnd))
 (kCond v4 (kSeq (kPu (eMv v0) w5 (kPu (eMv v0) w6 (kPu (eBin fAdd .add (nat_lit 0) v6 (gC (n6 (nat_lit 1)))) w7 (kPu (eGen (.slStr (.c (.s [(nat_lit 48), (nat_lit 49), (nat_lit 50), (nat_lit 51), (nat_lit 52), (nat_lit 53), (nat_lit 54), (nat_lit 55), (nat_lit 56), (nat_lit 57), (nat_lit 97), (nat_lit 98), (nat_lit 99), (nat_lit 100), (nat_lit 101), (nat_lit 102), (nat_lit 103), (nat_lit 104), (nat_lit 105), (nat_lit 106), (nat_lit 107), (nat_lit 108), (nat_lit 109), (nat_lit 110), (nat_lit 111), (nat_lit 112), (nat_lit 113), (nat_lit 114), (nat_lit 115), (nat_lit 116), (nat_lit 117), (nat_lit 118), (nat_lit 119), (nat_lit 120), (nat_lit 121), (nat_lit 122)])) (some t5) (some t7))) w8 (kPu (eMv v8) w2 kEnd)))))
 kRt) kEnd))
 (kSeq (kPu (eMv v0) w9 (kPu (eBin fMul .mul (nat_lit 0) v9 (gC (n6 (nat_lit 2)))) w10 (kPu (eMv v0) w11 (kPu (eBin fMul .mul (nat_lit 0) v11 (gC (n6 (nat_lit 2)))) w12 (kPu (eBin fAdd .add (nat_lit 0) v12 (gC (n6 (nat_lit 2)))) w13 (kPu (eGen (.slStr (.c (.s [(nat_lit 48), (nat_lit 48), (nat_lit 48), (nat_lit 49), (nat_lit 48), (nat_lit 50), (nat_lit 48), (nat_lit 51), (nat_lit 48), (nat_lit 52), (nat_lit 48), (nat_lit 53), (nat_lit 48), (nat_lit 54), (nat_lit 48), (nat_lit 55), (nat_lit 48), (nat_lit 56), (nat_lit 48), (nat_lit 57), (nat_lit 49), (nat_lit 48), (nat_lit 49), (nat_lit 49), (nat_lit 49), (nat_lit 50), (nat_lit 49), (nat_lit 51), (nat_lit 49), (nat_lit 52), (nat_lit 49), (nat_lit 53), (nat_lit 49), (nat_lit 54), (nat_lit 49), (nat_lit 55), (nat_lit 49), (nat_lit 56), (nat_lit 49), (nat_lit 57), (nat_lit 50), (nat_lit 48), (nat_lit 50), (nat_lit 49), (nat_lit 50), (nat_lit 50), (nat_lit 50), (nat_lit 51), (nat_lit 50), (nat_lit 52), (nat_lit 50), (nat_lit 53), (nat_lit 50), (nat_lit 54), (nat_lit 50), (nat_lit 55), (nat_lit 50), (nat_lit 56), (nat_lit 50), (nat_lit 57), (nat_lit 51), (nat_lit 48), (nat_lit 51), (nat_lit 49), (nat_lit 51), (nat_lit 50), (nat_lit 51), (nat_lit 51), (nat_lit 51), (nat_lit 52), (nat_lit 51), (nat_lit 53), (nat_lit 51), (nat_lit 54), (nat_lit 51), (nat_lit 55), (nat_lit 51), (nat_lit 56), (nat_lit 51), (nat_lit 57), (nat_lit 52), (nat_lit 48), (nat_lit 52), (nat_lit 49), (nat_lit 52), (nat_lit 50), (nat_lit 52), (nat_lit 51), (nat_lit 52), (nat_lit 52), (nat_lit 52), (nat_lit 53), (nat_lit 52), (nat_lit 54), (nat_lit 52), (nat_lit 55), (nat_lit 52), (nat_lit 56), (nat_lit 52), (nat_lit 57), (nat_lit 53), (nat_lit 48), (nat_lit 53), (nat_lit 49), (nat_lit 53), (nat_lit 50), (nat_lit 53), (nat_lit 51), (nat_lit 53), (nat_lit 52), (nat_lit 53), (nat_lit 53), (nat_lit 53), (nat_lit 54), (nat_lit 53), (nat_lit 55), (nat_lit 53), (nat_lit 56), (nat_lit 53), (nat_lit 57), (nat_lit 54), (nat_lit 48), (nat_lit 54), (nat_lit 49), (nat_lit 54), (nat_lit 50), (nat_lit 54), (nat_lit 51), (nat_lit 54), (nat_lit 52), (nat_lit 54), (nat_lit 53), (nat_lit 54), (nat_lit 54), (nat_lit 54), (nat_lit 55), (nat_lit 54), (nat_lit 56), (nat_lit 54), (nat_lit 57), (nat_lit 55), (nat_lit 48), (nat_lit 55), (nat_lit 49), (nat_lit 55), (nat_lit 50), (nat_lit 55), (nat_lit 51), (nat_lit 55), (nat_lit 52), (nat_lit 55), (nat_lit 53), (nat_lit 55), (nat_lit 54), (nat_lit 55), (nat_lit 55), (nat_lit 55), (nat_lit 56), (nat_lit 55), (nat_lit 57), (nat_lit 56), (nat_lit 48), (nat_lit 56), (nat_lit 49), (nat_lit 56), (nat_lit 50), (nat_lit 56), (nat_lit 51), (nat_lit 56), (nat_lit 52), (nat_lit 56), (nat_lit 53), (nat_lit 56), (nat_lit 54), (nat_lit 56), (nat_lit 55), (nat_lit 56), (nat_lit 56), (nat_lit 56), (nat_lit 57), (nat_lit 57), (nat_lit 48), (nat_lit 57), (nat_lit 49), (nat_lit 57), (nat_lit 50), (nat_lit 57), (nat_lit 51), (nat_lit 57), (nat_lit 52), (nat_lit 57), (nat_lit 53), (nat_lit 57), (nat_lit 54), (nat_lit 57), (nat_lit 55), (nat_lit 57), (nat_lit 56), (nat_lit 57), (nat_lit 57)])) (some t10) (some t13))) w14 (kPu (eMv v14) w2 kEnd)))))))
 kRt))), none⟩
noncomputable def tab : Tr (Option G) := (.nd (.nd (.nd (.nd (.nd (.nd (.nd (.nd .nil (some G127) .nil) none .nil) (some G31) (.nd (.nd .nil none .nil) none .nil)) (some G15) (.nd (.nd (.nd .nil none .nil) none .nil) none (.nd (.nd .nil none .nil) none .nil))) none (.nd (.nd (.nd (.nd .nil none .nil) none .nil) (some G39) (.nd (.nd .nil none .nil) none .nil)) none (.nd (.nd (.nd .nil none .nil) none .nil) (some G55) (.nd (.nd .nil none .nil) none .nil)))) none (.nd (.nd (.nd (.nd (.nd .nil none .nil) none .nil) (some G35) (.nd (.nd .nil none .nil) none .nil)) (some G19) (.nd (.nd (.nd .nil none .nil) (some G83) .nil) none (.nd (.nd .nil none .nil) none .nil))) none (.nd (.nd (.nd (.nd .nil none .nil) none .nil) none (.nd (.nd .nil none .nil) none .nil)) none (.nd (.nd (.nd .nil none .nil) none .nil) (some G59) (.nd .nil none .nil))))) none (.nd (.nd (.nd (.nd (.nd (.nd .nil none .nil) none .nil) (some G33) (.nd (.nd .nil none .nil) none .nil)) none (.nd (.nd (.nd .nil none .nil) none .nil) none (.nd (.nd .nil none .nil) none .nil))) none (.nd (.nd (.nd (.nd .nil (some G137) .nil) (some G73) .nil) (some G41) (.nd (.nd .nil none .nil) none .nil)) (some G25) (.nd (.nd (.nd .nil none .nil) none .nil) none (.nd (.nd .nil none .nil) none .nil)))) (some G5) (.nd (.nd (.nd (.nd (.nd .nil none .nil) none .nil) none (.nd (.nd .nil none .nil) none .nil)) (some G21) (.nd (.nd (.nd .nil none .nil) (some G85) .nil) none (.nd (.nd .nil none .nil) none .nil))) none (.nd (.nd (.nd (.nd .nil none .nil) (some G77) .nil) none (.nd (.nd .nil none .nil) (some G109) .nil)) (some G29) (.nd (.nd (.nd .nil none .nil) none .nil) (some G61) (.nd .nil none .nil)))))) none (.nd (.nd (.nd (.nd (.nd (.nd (.nd .nil none .nil) none .nil) none (.nd (.nd .nil none .nil) none .nil)) (some G16) (.nd (.nd (.nd .nil none .nil) none .nil) none (.nd (.nd .nil none .nil) (some G112) .nil))) (some G8) (.nd (.nd (.nd (.nd .nil none .nil) (some G72) .nil) none (.nd (.nd .nil none .nil) none .nil)) (some G24) (.nd (.nd (.nd .nil none .nil) none .nil) none (.nd (.nd .nil none .nil) none .nil)))) none (.nd (.nd (.nd (.nd (.nd .nil none .nil) none .nil) (some G36) (.nd (.nd .nil none .nil) none .nil)) (some G20) (.nd (.nd (.nd .nil none .nil) (some G84) .nil) none (.nd (.nd .nil none .nil) none .nil))) none (.nd (.nd (.nd (.nd .nil none .nil) none .nil) none (.nd (.nd .nil none .nil) (some G108) .nil)) (some G28) (.nd (.nd (.nd .nil none .nil) none .nil) none (.nd .nil none .nil))))) none (.nd (.nd (.nd (.nd (.nd (.nd .nil none .nil) none .nil) (some G34) (.nd (.nd .nil none .nil) none .nil)) (some G18) (.nd (.nd (.nd .nil none .nil) (some G82) .nil) none (.nd (.nd .nil none .nil) none .nil))) (some G10) (.nd (.nd (.nd (.nd .nil none .nil) (some G74) .nil) (some G42) (.nd (.nd .nil none .nil) none .nil)) none (.nd (.nd (.nd .nil none .nil) none .nil) (some G58) (.nd .nil none .nil)))) none (.nd (.nd (.nd (.nd (.nd .nil none .nil) none .nil) none (.nd (.nd .nil none .nil) none .nil)) none (.nd (.nd (.nd .nil none .nil) none .nil) none (.nd (.nd .nil none .nil) none .nil))) (some G14) (.nd (.nd (.nd (.nd .nil none .nil) none .nil) none (.nd (.nd .nil none .nil) (some G110) .nil)) none (.nd (.nd (.nd .nil none .nil) none .nil) none (.nd .nil none .nil)))))))
theorem G5_eq : (cF Go.Proofs.Tryz.prog 0 (planOf Go.Proofs.Tryz.prog 0) Go.Proofs.Tryz.f5).map toG = some G5 := by kernel_rfl
theorem G8_eq : (cF Go.Proofs.Tryz.prog 0 (planOf Go.Proofs.Tryz.prog 0) Go.Proofs.Tryz.f8).map toG = some G8 := by kernel_rfl
theorem G10_eq : (cF Go.Proofs.Tryz.prog 0 (planOf Go.Proofs.Tryz.prog 0) Go.Proofs.Tryz.f10).map toG = some G10 := by kernel_rfl
theorem G14_eq : (cF Go.Proofs.Tryz.prog 0 (planOf Go.Proofs.Tryz.prog 0) Go.Proofs.Tryz.f14).map toG = some G14 := by kernel_rfl
theorem G15_eq : (cF Go.Proofs.Tryz.prog 0 (planOf Go.Proofs.Tryz.prog 0) Go.Proofs.Tryz.f15).map toG = some G15 := by kernel_rfl
theorem G16_eq : (cF Go.Proofs.Tryz.prog 0 (planOf Go.Proofs.Tryz.prog 0) Go.Proofs.Tryz.f16).map toG = some G16 := by kernel_rfl
theorem G18_eq : (cF Go.Proofs.Tryz.prog 0 (planOf Go.Proofs.Tryz.prog 0) Go.Proofs.Tryz.f18).map toG = some G18 := by kernel_rfl
theorem G19_eq : (cF Go.Proofs.Tryz.prog 0 (planOf Go.Proofs.Tryz.prog 0) Go.Proofs.Tryz.f19).map toG = some G19 := by kernel_rfl
theorem G20_eq : (cF Go.Proofs.Tryz.prog 0 (planOf Go.Proofs.Tryz.prog 0) Go.Proofs.Tryz.f20).map toG = some G20 := by kernel_rfl
theorem G21_eq : (cF Go.Proofs.Tryz.prog 0 (planOf Go.Proofs.Tryz.prog 0) Go.Proofs.Tryz.f21).map toG = some G21 := by kernel_rfl
theorem G24_eq : (cF Go.Proofs.Tryz.prog 0 (planOf Go.Proofs.Tryz.prog 0) Go.Proofs.Tryz.f24).map toG = some G24 := by kernel_rfl
theorem G25_eq : (cF Go.Proofs.Tryz.prog 0 (planOf Go.Proofs.Tryz.prog 0) Go.Proofs.Tryz.f25).map toG = some G25 := by kernel_rfl
theorem G28_eq : (cF Go.Proofs.Tryz.prog 0 (planOf Go.Proofs.Tryz.prog 0) Go.Proofs.Tryz.f28).map toG = some G28 := by kernel_rfl
theorem G29_eq : (cF Go.Proofs.Tryz.prog 0 (planOf Go.Proofs.Tryz.prog 0) Go.Proofs.Tryz.f29).map toG = some G29 := by kernel_rfl
theorem G31_eq : (cF Go.Proofs.Tryz.prog 0 (planOf Go.Proofs.Tryz.prog 0) Go.Proofs.Tryz.f31).map toG = some G31 := by kernel_rfl
theorem G33_eq : (cF Go.Proofs.Tryz.prog 0 (planOf Go.Proofs.Tryz.prog 0) Go.Proofs.Tryz.f33).map toG = some G33 := by kernel_rfl
theorem G34_eq : (cF Go.Proofs.Tryz.prog 0 (planOf Go.Proofs.Tryz.prog 0) Go.Proofs.Tryz.f34).map toG = some G34 := by kernel_rfl
theorem G35_eq : (cF Go.Proofs.Tryz.prog 0 (planOf Go.Proofs.Tryz.prog 0) Go.Proofs.Tryz.f35).map toG = some G35 := by kernel_rfl
theorem G36_eq : (cF Go.Proofs.Tryz.prog 0 (planOf Go.Proofs.Tryz.prog 0) Go.Proofs.Tryz.f36).map toG = some G36 := by kernel_rfl
theorem G39_eq : (cF Go.Proofs.Tryz.prog 0 (planOf Go.Proofs.Tryz.prog 0) Go.Proofs.Tryz.f39).map toG = some G39 := by kernel_rfl
theorem G41_eq : (cF Go.Proofs.Tryz.prog 0 (planOf Go.Proofs.Tryz.prog 0) Go.Proofs.Tryz.f41).map toG = some G41 := by kernel_rfl
theorem G42_eq : (cF Go.Proofs.Tryz.prog 0 (planOf Go.Proofs.Tryz.prog 0) Go.Proofs.Tryz.f42).map toG = some G42 := by kernel_rfl
theorem G55_eq : (cF Go.Proofs.Tryz.prog 0 (planOf Go.Proofs.Tryz.prog 0) Go.Proofs.Tryz.f55).map toG = some G55 := by kernel_rfl
theorem G58_eq : (cF Go.Proofs.Tryz.prog 0 (planOf Go.Proofs.Tryz.prog 0) Go.Proofs.Tryz.f58).map toG = some G58 := by kernel_rfl
theorem G59_eq : (cF Go.Proofs.Tryz.prog 0 (planOf Go.Proofs.Tryz.prog 0) Go.Proofs.Tryz.f59).map toG = some G59 := by kernel_rfl
theorem G61_eq : (cF Go.Proofs.Tryz.prog 0 (planOf Go.Proofs.Tryz.prog 0) Go.Proofs.Tryz.f61).map toG = some G61 := by kernel_rfl
theorem G72_eq : (cF Go.Proofs.Tryz.prog 0 (planOf Go.Proofs.Tryz.prog 0) Go.Proofs.Tryz.f72).map toG = some G72 := by kernel_rfl
theorem G73_eq : (cF Go.Proofs.Tryz.prog 0 (planOf Go.Proofs.Tryz.prog 0) Go.Proofs.Tryz.f73).map toG = some G73 := by kernel_rfl
theorem G74_eq : (cF Go.Proofs.Tryz.prog 0 (planOf Go.Proofs.Tryz.prog 0) Go.Proofs.Tryz.f74).map toG = some G74 := by kernel_rfl
theorem G77_eq : (cF Go.Proofs.Tryz.prog 0 (planOf Go.Proofs.Tryz.prog 0) Go.Proofs.Tryz.f77).map toG = some G77 := by kernel_rfl
theorem G82_eq : (cF Go.Proofs.Tryz.prog 0 (planOf Go.Proofs.Tryz.prog 0) Go.Proofs.Tryz.f82).map toG = some G82 := by kernel_rfl
theorem G83_eq : (cF Go.Proofs.Tryz.prog 0 (planOf Go.Proofs.Tryz.prog 0) Go.Proofs.Tryz.f83).map toG = some G83 := by kernel_rfl
theorem G84_eq : (cF Go.Proofs.Tryz.prog 0 (planOf Go.Proofs.Tryz.prog 0) Go.Proofs.Tryz.f84).map toG = some G84 := by kernel_rfl
theorem G85_eq : (cF Go.Proofs.Tryz.prog 0 (planOf Go.Proofs.Tryz.prog 0) Go.Proofs.Tryz.f85).map toG = some G85 := by kernel_rfl
theorem G108_eq : (cF Go.Proofs.Tryz.prog 0 (planOf Go.Proofs.Tryz.prog 0) Go.Proofs.Tryz.f108).map toG = some G108 := by kernel_rfl
theorem G109_eq : (cF Go.Proofs.Tryz.prog 0 (planOf Go.Proofs.Tryz.prog 0) Go.Proofs.Tryz.f109).map toG = some G109 := by kernel_rfl
theorem G110_eq : (cF Go.Proofs.Tryz.prog 0 (planOf Go.Proofs.Tryz.prog 0) Go.Proofs.Tryz.f110).map toG = some G110 := by kernel_rfl
theorem G112_eq : (cF Go.Proofs.Tryz.prog 0 (planOf Go.Proofs.Tryz.prog 0) Go.Proofs.Tryz.f112).map toG = some G112 := by kernel_rfl
theorem G127_eq : (cF Go.Proofs.Tryz.prog 0 (planOf Go.Proofs.Tryz.prog 0) Go.Proofs.Tryz.f127).map toG = some G127 := by kernel_rfl
theorem G137_eq : (cF Go.Proofs.Tryz.prog 0 (planOf Go.Proofs.Tryz.prog 0) Go.Proofs.Tryz.f137).map toG = some G137 := by kernel_rfl
section
variable [Env]
theorem e5 {p : Path} (h : p.num = 5 := by rfl) : EntG Go.Proofs.Tryz.prog 0 (planOf Go.Proofs.Tryz.prog 0) p (some G5) := EntG.some Go.Proofs.Tryz.func5 G5_eq h
theorem e8 {p : Path} (h : p.num = 8 := by rfl) : EntG Go.Proofs.Tryz.prog 0 (planOf Go.Proofs.Tryz.prog 0) p (some G8) := EntG.some Go.Proofs.Tryz.func8 G8_eq h
theorem e10 {p : Path} (h : p.num = 10 := by rfl) : EntG Go.Proofs.Tryz.prog 0 (planOf Go.Proofs.Tryz.prog 0) p (some G10) := EntG.some Go.Proofs.Tryz.func10 G10_eq h
theorem e14 {p : Path} (h : p.num = 14 := by rfl) : EntG Go.Proofs.Tryz.prog 0 (planOf Go.Proofs.Tryz.prog 0) p (some G14) := EntG.some Go.Proofs.Tryz.func14 G14_eq h
theorem e15 {p : Path} (h : p.num = 15 := by rfl) : EntG Go.Proofs.Tryz.prog 0 (planOf Go.Proofs.Tryz.prog 0) p (some G15) := EntG.some Go.Proofs.Tryz.func15 G15_eq h
theorem e16 {p : Path} (h : p.num = 16 := by rfl) : EntG Go.Proofs.Tryz.prog 0 (planOf Go.Proofs.Tryz.prog 0) p (some G16) := EntG.some Go.Proofs.Tryz.func16 G16_eq h
theorem e18 {p : Path} (h : p.num = 18 := by rfl) : EntG Go.Proofs.Tryz.prog 0 (planOf Go.Proofs.Tryz.prog 0) p (some G18) := EntG.some Go.Proofs.Tryz.func18 G18_eq h
theorem e19 {p : Path} (h : p.num = 19 := by rfl) : EntG Go.Proofs.Tryz.prog 0 (planOf Go.Proofs.Tryz.prog 0) p (some G19) := EntG.some Go.Proofs.Tryz.func19 G19_eq h
theorem e20 {p : Path} (h : p.num = 20 := by rfl) : EntG Go.Proofs.Tryz.prog 0 (planOf Go.Proofs.Tryz.prog 0) p (some G20) := EntG.some Go.Proofs.Tryz.func20 G20_eq h
theorem e21 {p : Path} (h : p.num = 21 := by rfl) : EntG Go.Proofs.Tryz.prog 0 (planOf Go.Proofs.Tryz.prog 0) p (some G21) := EntG.some Go.Proofs.Tryz.func21 G21_eq h
theorem e24 {p : Path} (h : p.num = 24 := by rfl) : EntG Go.Proofs.Tryz.prog 0 (planOf Go.Proofs.Tryz.prog 0) p (some G24) := EntG.some Go.Proofs.Tryz.func24 G24_eq h
theorem e25 {p : Path} (h : p.num = 25 := by rfl) : EntG Go.Proofs.Tryz.prog 0 (planOf Go.Proofs.Tryz.prog 0) p (some G25) := EntG.some Go.Proofs.Tryz.func25 G25_eq h
theorem e28 {p : Path} (h : p.num = 28 := by rfl) : EntG Go.Proofs.Tryz.prog 0 (planOf Go.Proofs.Tryz.prog 0) p (some G28) := EntG.some Go.Proofs.Tryz.func28 G28_eq h
theorem e29 {p : Path} (h : p.num = 29 := by rfl) : EntG Go.Proofs.Tryz.prog 0 (planOf Go.Proofs.Tryz.prog 0) p (some G29) := EntG.some Go.Proofs.Tryz.func29 G29_eq h
theorem e31 {p : Path} (h : p.num = 31 := by rfl) : EntG Go.Proofs.Tryz.prog 0 (planOf Go.Proofs.Tryz.prog 0) p (some G31) := EntG.some Go.Proofs.Tryz.func31 G31_eq h
theorem e33 {p : Path} (h : p.num = 33 := by rfl) : EntG Go.Proofs.Tryz.prog 0 (planOf Go.Proofs.Tryz.prog 0) p (some G33) := EntG.some Go.Proofs.Tryz.func33 G33_eq h
theorem e34 {p : Path} (h : p.num = 34 := by rfl) : EntG Go.Proofs.Tryz.prog 0 (planOf Go.Proofs.Tryz.prog 0) p (some G34) := EntG.some Go.Proofs.Tryz.func34 G34_eq h
theorem e35 {p : Path} (h : p.num = 35 := by rfl) : EntG Go.Proofs.Tryz.prog 0 (planOf Go.Proofs.Tryz.prog 0) p (some G35) := EntG.some Go.Proofs.Tryz.func35 G35_eq h
theorem e36 {p : Path} (h : p.num = 36 := by rfl) : EntG Go.Proofs.Tryz.prog 0 (planOf Go.Proofs.Tryz.prog 0) p (some G36) := EntG.some Go.Proofs.Tryz.func36 G36_eq h
theorem e39 {p : Path} (h : p.num = 39 := by rfl) : EntG Go.Proofs.Tryz.prog 0 (planOf Go.Proofs.Tryz.prog 0) p (some G39) := EntG.some Go.Proofs.Tryz.func39 G39_eq h
theorem e41 {p : Path} (h : p.num = 41 := by rfl) : EntG Go.Proofs.Tryz.prog 0 (planOf Go.Proofs.Tryz.prog 0) p (some G41) := EntG.some Go.Proofs.Tryz.func41 G41_eq h
theorem e42 {p : Path} (h : p.num = 42 := by rfl) : EntG Go.Proofs.Tryz.prog 0 (planOf Go.Proofs.Tryz.prog 0) p (some G42) := EntG.some Go.Proofs.Tryz.func42 G42_eq h
theorem e55 {p : Path} (h : p.num = 55 := by rfl) : EntG Go.Proofs.Tryz.prog 0 (planOf Go.Proofs.Tryz.prog 0) p (some G55) := EntG.some Go.Proofs.Tryz.func55 G55_eq h
theorem e58 {p : Path} (h : p.num = 58 := by rfl) : EntG Go.Proofs.Tryz.prog 0 (planOf Go.Proofs.Tryz.prog 0) p (some G58) := EntG.some Go.Proofs.Tryz.func58 G58_eq h
theorem e59 {p : Path} (h : p.num = 59 := by rfl) : EntG Go.Proofs.Tryz.prog 0 (planOf Go.Proofs.Tryz.prog 0) p (some G59) := EntG.some Go.Proofs.Tryz.func59 G59_eq h
theorem e61 {p : Path} (h : p.num = 61 := by rfl) : EntG Go.Proofs.Tryz.prog 0 (planOf Go.Proofs.Tryz.prog 0) p (some G61) := EntG.some Go.Proofs.Tryz.func61 G61_eq h
theorem e72 {p : Path} (h : p.num = 72 := by rfl) : EntG Go.Proofs.Tryz.prog 0 (planOf Go.Proofs.Tryz.prog 0) p (some G72) := EntG.some Go.Proofs.Tryz.func72 G72_eq h
theorem e73 {p : Path} (h : p.num = 73 := by rfl) : EntG Go.Proofs.Tryz.prog 0 (planOf Go.Proofs.Tryz.prog 0) p (some G73) := EntG.some Go.Proofs.Tryz.func73 G73_eq h
theorem e74 {p : Path} (h : p.num = 74 := by rfl) : EntG Go.Proofs.Tryz.prog 0 (planOf Go.Proofs.Tryz.prog 0) p (some G74) := EntG.some Go.Proofs.Tryz.func74 G74_eq h
theorem e77 {p : Path} (h : p.num = 77 := by rfl) : EntG Go.Proofs.Tryz.prog 0 (planOf Go.Proofs.Tryz.prog 0) p (some G77) := EntG.some Go.Proofs.Tryz.func77 G77_eq h
theorem e82 {p : Path} (h : p.num = 82 := by rfl) : EntG Go.Proofs.Tryz.prog 0 (planOf Go.Proofs.Tryz.prog 0) p (some G82) := EntG.some Go.Proofs.Tryz.func82 G82_eq h
theorem e83 {p : Path} (h : p.num = 83 := by rfl) : EntG Go.Proofs.Tryz.prog 0 (planOf Go.Proofs.Tryz.prog 0) p (some G83) := EntG.some Go.Proofs.Tryz.func83 G83_eq h
theorem e84 {p : Path} (h : p.num = 84 := by rfl) : EntG Go.Proofs.Tryz.prog 0 (planOf Go.Proofs.Tryz.prog 0) p (some G84) := EntG.some Go.Proofs.Tryz.func84 G84_eq h
theorem e85 {p : Path} (h : p.num = 85 := by rfl) : EntG Go.Proofs.Tryz.prog 0 (planOf Go.Proofs.Tryz.prog 0) p (some G85) := EntG.some Go.Proofs.Tryz.func85 G85_eq h
theorem e108 {p : Path} (h : p.num = 108 := by rfl) : EntG Go.Proofs.Tryz.prog 0 (planOf Go.Proofs.Tryz.prog 0) p (some G108) := EntG.some Go.Proofs.Tryz.func108 G108_eq h
theorem e109 {p : Path} (h : p.num = 109 := by rfl) : EntG Go.Proofs.Tryz.prog 0 (planOf Go.Proofs.Tryz.prog 0) p (some G109) := EntG.some Go.Proofs.Tryz.func109 G109_eq h
theorem e110 {p : Path} (h : p.num = 110 := by rfl) : EntG Go.Proofs.Tryz.prog 0 (planOf Go.Proofs.Tryz.prog 0) p (some G110) := EntG.some Go.Proofs.Tryz.func110 G110_eq h
theorem e112 {p : Path} (h : p.num = 112 := by rfl) : EntG Go.Proofs.Tryz.prog 0 (planOf Go.Proofs.Tryz.prog 0) p (some G112) := EntG.some Go.Proofs.Tryz.func112 G112_eq h
theorem e127 {p : Path} (h : p.num = 127 := by rfl) : EntG Go.Proofs.Tryz.prog 0 (planOf Go.Proofs.Tryz.prog 0) p (some G127) := EntG.some Go.Proofs.Tryz.func127 G127_eq h
theorem e137 {p : Path} (h : p.num = 137 := by rfl) : EntG Go.Proofs.Tryz.prog 0 (planOf Go.Proofs.Tryz.prog 0) p (some G137) := EntG.some Go.Proofs.Tryz.func137 G137_eq h
theorem tab_ok : AllT (EntG Go.Proofs.Tryz.prog 0 (planOf Go.Proofs.Tryz.prog 0)) tab := (show AllT _ tab from ⟨EntG.none, ⟨EntG.none, ⟨EntG.none, ⟨EntG.none, ⟨e15, ⟨e31, ⟨EntG.none, ⟨e127, trivial, trivial⟩, trivial⟩, ⟨EntG.none, ⟨EntG.none, trivial, trivial⟩, trivial⟩⟩, ⟨EntG.none, ⟨EntG.none, ⟨EntG.none, trivial, trivial⟩, trivial⟩, ⟨EntG.none, ⟨EntG.none, trivial, trivial⟩, trivial⟩⟩⟩, ⟨EntG.none, ⟨e39, ⟨EntG.none, ⟨EntG.none, trivial, trivial⟩, trivial⟩, ⟨EntG.none, ⟨EntG.none, trivial, trivial⟩, trivial⟩⟩, ⟨e55, ⟨EntG.none, ⟨EntG.none, trivial, trivial⟩, trivial⟩, ⟨EntG.none, ⟨EntG.none, trivial, trivial⟩, trivial⟩⟩⟩⟩, ⟨EntG.none, ⟨e19, ⟨e35, ⟨EntG.none, ⟨EntG.none, trivial, trivial⟩, trivial⟩, ⟨EntG.none, ⟨EntG.none, trivial, trivial⟩, trivial⟩⟩, ⟨EntG.none, ⟨e83, ⟨EntG.none, trivial, trivial⟩, trivial⟩, ⟨EntG.none, ⟨EntG.none, trivial, trivial⟩, trivial⟩⟩⟩, ⟨EntG.none, ⟨EntG.none, ⟨EntG.none, ⟨EntG.none, trivial, trivial⟩, trivial⟩, ⟨EntG.none, ⟨EntG.none, trivial, trivial⟩, trivial⟩⟩, ⟨e59, ⟨EntG.none, ⟨EntG.none, trivial, trivial⟩, trivial⟩, ⟨EntG.none, trivial, trivial⟩⟩⟩⟩⟩, ⟨e5, ⟨EntG.none, ⟨EntG.none, ⟨e33, ⟨EntG.none, ⟨EntG.none, trivial, trivial⟩, trivial⟩, ⟨EntG.none, ⟨EntG.none, trivial, trivial⟩, trivial⟩⟩, ⟨EntG.none, ⟨EntG.none, ⟨EntG.none, trivial, trivial⟩, trivial⟩, ⟨EntG.none, ⟨EntG.none, trivial, trivial⟩, trivial⟩⟩⟩, ⟨e25, ⟨e41, ⟨e73, ⟨e137, trivial, trivial⟩, trivial⟩, ⟨EntG.none, ⟨EntG.none, trivial, trivial⟩, trivial⟩⟩, ⟨EntG.none, ⟨EntG.none, ⟨EntG.none, trivial, trivial⟩, trivial⟩, ⟨EntG.none, ⟨EntG.none, trivial, trivial⟩, trivial⟩⟩⟩⟩, ⟨EntG.none, ⟨e21, ⟨EntG.none, ⟨EntG.none, ⟨EntG.none, trivial, trivial⟩, trivial⟩, ⟨EntG.none, ⟨EntG.none, trivial, trivial⟩, trivial⟩⟩, ⟨EntG.none, ⟨e85, ⟨EntG.none, trivial, trivial⟩, trivial⟩, ⟨EntG.none, ⟨EntG.none, trivial, trivial⟩, trivial⟩⟩⟩, ⟨e29, ⟨EntG.none, ⟨e77, ⟨EntG.none, trivial, trivial⟩, trivial⟩, ⟨e109, ⟨EntG.none, trivial, trivial⟩, trivial⟩⟩, ⟨e61, ⟨EntG.none, ⟨EntG.none, trivial, trivial⟩, trivial⟩, ⟨EntG.none, trivial, trivial⟩⟩⟩⟩⟩⟩, ⟨EntG.none, ⟨EntG.none, ⟨e8, ⟨e16, ⟨EntG.none, ⟨EntG.none, ⟨EntG.none, trivial, trivial⟩, trivial⟩, ⟨EntG.none, ⟨EntG.none, trivial, trivial⟩, trivial⟩⟩, ⟨EntG.none, ⟨EntG.none, ⟨EntG.none, trivial, trivial⟩, trivial⟩, ⟨e112, ⟨EntG.none, trivial, trivial⟩, trivial⟩⟩⟩, ⟨e24, ⟨EntG.none, ⟨e72, ⟨EntG.none, trivial, trivial⟩, trivial⟩, ⟨EntG.none, ⟨EntG.none, trivial, trivial⟩, trivial⟩⟩, ⟨EntG.none, ⟨EntG.none, ⟨EntG.none, trivial, trivial⟩, trivial⟩, ⟨EntG.none, ⟨EntG.none, trivial, trivial⟩, trivial⟩⟩⟩⟩, ⟨EntG.none, ⟨e20, ⟨e36, ⟨EntG.none, ⟨EntG.none, trivial, trivial⟩, trivial⟩, ⟨EntG.none, ⟨EntG.none, trivial, trivial⟩, trivial⟩⟩, ⟨EntG.none, ⟨e84, ⟨EntG.none, trivial, trivial⟩, trivial⟩, ⟨EntG.none, ⟨EntG.none, trivial, trivial⟩, trivial⟩⟩⟩, ⟨e28, ⟨EntG.none, ⟨EntG.none, ⟨EntG.none, trivial, trivial⟩, trivial⟩, ⟨e108, ⟨EntG.none, trivial, trivial⟩, trivial⟩⟩, ⟨EntG.none, ⟨EntG.none, ⟨EntG.none, trivial, trivial⟩, trivial⟩, ⟨EntG.none, trivial, trivial⟩⟩⟩⟩⟩, ⟨EntG.none, ⟨e10, ⟨e18, ⟨e34, ⟨EntG.none, ⟨EntG.none, trivial, trivial⟩, trivial⟩, ⟨EntG.none, ⟨EntG.none, trivial, trivial⟩, trivial⟩⟩, ⟨EntG.none, ⟨e82, ⟨EntG.none, trivial, trivial⟩, trivial⟩, ⟨EntG.none, ⟨EntG.none, trivial, trivial⟩, trivial⟩⟩⟩, ⟨EntG.none, ⟨e42, ⟨e74, ⟨EntG.none, trivial, trivial⟩, trivial⟩, ⟨EntG.none, ⟨EntG.none, trivial, trivial⟩, trivial⟩⟩, ⟨e58, ⟨EntG.none, ⟨EntG.none, trivial, trivial⟩, trivial⟩, ⟨EntG.none, trivial, trivial⟩⟩⟩⟩, ⟨e14, ⟨EntG.none, ⟨EntG.none, ⟨EntG.none, ⟨EntG.none, trivial, trivial⟩, trivial⟩, ⟨EntG.none, ⟨EntG.none, trivial, trivial⟩, trivial⟩⟩, ⟨EntG.none, ⟨EntG.none, ⟨EntG.none, trivial, trivial⟩, trivial⟩, ⟨EntG.none, ⟨EntG.none, trivial, trivial⟩, trivial⟩⟩⟩, ⟨EntG.none, ⟨EntG.none, ⟨EntG.none, ⟨EntG.none, trivial, trivial⟩, trivial⟩, ⟨e110, ⟨EntG.none, trivial, trivial⟩, trivial⟩⟩, ⟨EntG.none, ⟨EntG.none, ⟨EntG.none, trivial, trivial⟩, trivial⟩, ⟨EntG.none, trivial, trivial⟩⟩⟩⟩⟩⟩⟩)
end
theorem begun_runs : endsJ (goT tab 1000000 q5 [] ⟨.nil, .e⟩) = true := by kernel_rfl
theorem begun (w : World) : Calls Go.Proofs.Tryz.prog 5 #[] w fun e w' => e = .returned (.bool true) ∧ RowKit.Below w.heap.size w w' :=
  calls_trueJ (f := q5) (by kernel_rfl) (@tab_ok noEnv) begun_runs w
noncomputable def sV : V := .s [99, 48, 110, 48]
noncomputable def vZ : List V := [n6 0, n6 0, .s [], .b false, n6 0]
noncomputable def xZ : List V := [n6 0, n6 0, .s [], .b false, n6 0, .sl0, .sl0]
noncomputable def cZ : List V := .b false :: (vZ ++ xZ)
theorem id_runs : endsV (goT tab 100000 q18 [sV] ⟨.nil, .e⟩) (.b true) = true := by kernel_rfl
theorem cell_runs : endsV (goT tab 100000 q20 [.a cZ] ⟨.nil, .e⟩) (.b true) = true := by kernel_rfl
theorem expr_runs : endsV (goT tab 100000 q29 [.a xZ] ⟨.nil, .e⟩) (.a xZ) = true := by kernel_rfl
theorem rects_runs : endsV (goT tab 100000 q28 [.sl0] ⟨.nil, .e⟩) .sl0 = true := by kernel_rfl
theorem same_runs : endsV (goT tab 100000 q41 [.a cZ, .a cZ] ⟨.nil, .e⟩) (.b true) = true := by kernel_rfl
theorem eqR_runs : endsV (goT tab 100000 q39 [.sl0, .sl0] ⟨.nil, .e⟩) (.b true) = true := by kernel_rfl
noncomputable def setO (x y : V) : V := .a ([n6 1, sV, x, y] ++ (cZ ++ [n6 0, n6 0, n6 0, .sl0, n6 0, .s []]))
theorem on_runs : endsV (goT tab 100000 q14 [setO (.y 0 0 0 2199023255551) (.y 1 0 0 2199023255551)] ⟨.nil, .e⟩) (.b true) = true := by kernel_rfl
theorem off1_runs : endsV (goT tab 100000 q14 [setO (.y 0 0 (-9223372036854775808) (-1)) (.y 1 0 (-9223372036854775808) 9223372036854775807)] ⟨.nil, .e⟩) (.b false) = true := by kernel_rfl
theorem off2_runs : endsV (goT tab 100000 q14 [setO (.y 0 0 2199023255552 9223372036854775807) (.y 1 0 (-9223372036854775808) 9223372036854775807)] ⟨.nil, .e⟩) (.b false) = true := by kernel_rfl
theorem off3_runs : endsV (goT tab 100000 q14 [setO (.y 0 0 0 2199023255551) (.y 1 0 (-9223372036854775808) (-1))] ⟨.nil, .e⟩) (.b false) = true := by kernel_rfl
theorem off4_runs : endsV (goT tab 100000 q14 [setO (.y 0 0 0 2199023255551) (.y 1 0 2199023255552 9223372036854775807)] ⟨.nil, .e⟩) (.b false) = true := by kernel_rfl
end Code
open Go.RowKit
abbrev n64 (x : Int) : Value := .int .i64 x
abbrev s0 : Value := .string ⟨#[99, 48, 110, 48]⟩
abbrev sE : Value := .string ⟨#[]⟩
abbrev sN : Value := .slice none 0 0
abbrev vlZ : List Value := [n64 0, n64 0, sE, .bool false, n64 0]
abbrev exZ : List Value := [n64 0, n64 0, sE, .bool false, n64 0, sN, sN]
abbrev exA : Value := .agg #[n64 0, n64 0, sE, .bool false, n64 0, sN, sN]
abbrev ceZ : List Value := [.bool false, n64 0, n64 0, sE, .bool false, n64 0, n64 0, n64 0, sE, .bool false, n64 0, sN, sN]
abbrev ceA : Value := .agg #[.bool false, n64 0, n64 0, sE, .bool false, n64 0, n64 0, n64 0, sE, .bool false, n64 0, sN, sN]
/-- An operation on c0n0, with an empty cell. -/
abbrev opL (k r c lk a t : Int) : List Value := [n64 k, s0, n64 r, n64 c, .bool false, n64 0, n64 0, sE, .bool false, n64 0, n64 0, n64 0, sE, .bool false, n64 0, sN, sN, n64 lk, n64 a, n64 t, sN, n64 0, sE]
abbrev opV (k r c lk a t : Int) : Value := .agg #[n64 k, s0, n64 r, n64 c, .bool false, n64 0, n64 0, sE, .bool false, n64 0, n64 0, n64 0, sE, .bool false, n64 0, sN, sN, n64 lk, n64 a, n64 t, sN, n64 0, sE]
def Fits (a : Int) : Prop := -9223372036854775808 ≤ a ∧ a ≤ 9223372036854775807
theorem told {n : Nat} {f : Path} {args : List V} {v : V} (hrun : endsV (goT Code.tab n f args ⟨.nil, .e⟩) v = true) (hfa : flats args = true) (pr : Nat → Int) {xs : List Value} (hxs : @concs (parEnv pr) (fun _ => none) args = some xs) {u : Value} (hu : @conc (parEnv pr) (fun _ => none) v = some u) (w : World) :
    Calls Go.Proofs.Tryz.prog f.num xs.toArray w fun e w' => e = .returned u ∧ Below w.heap.size w w' :=
  (calls_told (tg := Code.tab) (by kernel_rfl) Code.tab_ok hrun hfa pr hxs w).2.mono fun e w' ⟨u', he, hu', hb⟩ => ⟨by rw [he]; rw [hu] at hu'; rw [Option.some.inj hu'], hb⟩
theorem begun (w : World) : Calls Go.Proofs.Tryz.prog 5 #[] w fun e w' => e = .returned (.bool true) ∧ Below w.heap.size w w' := Code.begun w
theorem id0 (w : World) : Calls Go.Proofs.Tryz.prog 18 #[s0] w fun e w' => e = .returned (.bool true) ∧ Below w.heap.size w w' := told Code.id_runs (by kernel_rfl) (fun _ => 0) (xs := [s0]) (by kernel_rfl) (by kernel_rfl) w
theorem mayCell0 (w : World) : Calls Go.Proofs.Tryz.prog 20 #[ceA] w fun e w' => e = .returned (.bool true) ∧ Below w.heap.size w w' := told Code.cell_runs (by kernel_rfl) (fun _ => 0) (xs := [ceA]) (by kernel_rfl) (by kernel_rfl) w
theorem cloneExpr0 (w : World) : Calls Go.Proofs.Tryz.prog 29 #[exA] w fun e w' => e = .returned (exA) ∧ Below w.heap.size w w' := told Code.expr_runs (by kernel_rfl) (fun _ => 0) (xs := [exA]) (by kernel_rfl) (by kernel_rfl) w
theorem cloneRects0 (w : World) : Calls Go.Proofs.Tryz.prog 28 #[sN] w fun e w' => e = .returned sN ∧ Below w.heap.size w w' := told Code.rects_runs (by kernel_rfl) (fun _ => 0) (xs := [sN]) (by kernel_rfl) (by kernel_rfl) w
theorem same0 (w : World) : Calls Go.Proofs.Tryz.prog 41 #[ceA, ceA] w fun e w' => e = .returned (.bool true) ∧ Below w.heap.size w w' := told Code.same_runs (by kernel_rfl) (fun _ => 0) (xs := [ceA, ceA]) (by kernel_rfl) (by kernel_rfl) w
theorem eqRects0 (w : World) : Calls Go.Proofs.Tryz.prog 39 #[sN, sN] w fun e w' => e = .returned (.bool true) ∧ Below w.heap.size w w' := told Code.eqR_runs (by kernel_rfl) (fun _ => 0) (xs := [sN, sN]) (by kernel_rfl) (by kernel_rfl) w
def pr2 (r c : Int) : Nat → Int
  | 0 => r | _ => c
theorem conc_all [Env] {ρ : Ren} {l : List V} {xs : List Value} (h : l.all V.one = true) (hx : concs ρ l = some xs) : conc ρ (.a l) = some (.agg xs.toArray) := by
  simp only [conc, h, if_true, hx]; rfl
theorem set_conc (r c l1 h1 l2 h2 : Int) (a1 : l1 ≤ r) (b1 : r ≤ h1) (a2 : l2 ≤ c) (b2 : c ≤ h2) : @concs (parEnv (pr2 r c)) (fun _ => none) [Code.setO (.y 0 0 l1 h1) (.y 1 0 l2 h2)] = some [opV 1 r c 0 0 0] := by
  have y0 := conc_par (pr2 r c) 0 r _ _ (fun _ => none) rfl a1 b1
  have y1 := conc_par (pr2 r c) 1 c _ _ (fun _ => none) rfl a2 b2
  have e : @conc (parEnv (pr2 r c)) (fun _ => none) (Code.setO (.y 0 0 l1 h1) (.y 1 0 l2 h2)) = some (opV 1 r c 0 0 0) := by
    unfold Code.setO Code.cZ Code.vZ Code.xZ
    simp only [List.cons_append, List.nil_append]
    refine @conc_all (parEnv (pr2 r c)) _ _ (opL 1 r c 0 0 0) rfl ?_
    simp only [concs, y0, y1]
    rfl
  simp only [concs, e]; rfl
theorem may_on (r c : Int) (h1 : 0 ≤ r) (h2 : 0 ≤ c) (h3 : r < 2199023255552) (h4 : c < 2199023255552) (w : World) : Calls Go.Proofs.Tryz.prog 14 #[opV 1 r c 0 0 0] w fun e w' => e = .returned (.bool true) ∧ Below w.heap.size w w' :=
  told Code.on_runs (by kernel_rfl) (pr2 r c) (set_conc r c _ _ _ _ (by omega) (by omega) (by omega) (by omega)) (by rfl) w
theorem may_off (r c : Int) (fr : Fits r) (fc : Fits c) (h : ¬ (0 ≤ r ∧ 0 ≤ c ∧ r < 2199023255552 ∧ c < 2199023255552)) (w : World) : Calls Go.Proofs.Tryz.prog 14 #[opV 1 r c 0 0 0] w fun e w' => e = .returned (.bool false) ∧ Below w.heap.size w w' := by
  obtain ⟨f1, f2⟩ := fr
  obtain ⟨f3, f4⟩ := fc
  by_cases h1 : r < 0
  · exact told Code.off1_runs (by kernel_rfl) (pr2 r c) (set_conc r c _ _ _ _ (by omega) (by omega) (by omega) (by omega)) (by rfl) w
  by_cases h2 : 2199023255552 ≤ r
  · exact told Code.off2_runs (by kernel_rfl) (pr2 r c) (set_conc r c _ _ _ _ (by omega) (by omega) (by omega) (by omega)) (by rfl) w
  by_cases h3 : c < 0
  · exact told Code.off3_runs (by kernel_rfl) (pr2 r c) (set_conc r c _ _ _ _ (by omega) (by omega) (by omega) (by omega)) (by rfl) w
  · exact told Code.off4_runs (by kernel_rfl) (pr2 r c) (set_conc r c _ _ _ _ (by omega) (by omega) (by omega) (by omega)) (by rfl) w
#print axioms may_off
end Go.Proofs.YtglgibmjcgfecaaGreatDoor

