/- Functions of the program in the words of the interpreter, printed by a program of mine; the first half. -/
import Derived.Test.YtklnmjhldpohbaaGreatDoorD3
set_option maxRecDepth 100000
set_option linter.unusedVariables false
namespace Ast
open Go Den
abbrev rep (n : Nat) (v : VV) : List VV := List.replicate n v
def s0 : P := .z
def s1 : P := .a s0
def s2 : P := .b s0
def s3 : P := .c s0
def s4 : P := .d s0
def s5 : P := .a s1
def s6 : P := .b s1
def s7 : P := .c s1
def s8 : P := .d s1
def s9 : P := .a s2
def s10 : P := .b s2
def s11 : P := .c s2
def s12 : P := .d s2
def s13 : P := .a s3
def s14 : P := .b s3
def s15 : P := .c s3
def s16 : P := .d s3
def s17 : P := .a s4
def s18 : P := .b s4
def s19 : P := .c s4
def s20 : P := .d s4
def s21 : P := .a s5
def s22 : P := .b s5
def s23 : P := .c s5
def s24 : P := .d s5
def s25 : P := .a s6
def s26 : P := .b s6
def s27 : P := .c s6
def s28 : P := .d s6
def s29 : P := .a s7
def s30 : P := .b s7
def s31 : P := .c s7
def s32 : P := .d s7
def s33 : P := .a s8
def s34 : P := .b s8
def s35 : P := .c s8
def s36 : P := .d s8
def s37 : P := .a s9
def s38 : P := .b s9
def s39 : P := .c s9
def s40 : P := .d s9
def s41 : P := .a s10
def s42 : P := .b s10
def s43 : P := .c s10
def s44 : P := .d s10
def s45 : P := .a s11
def s46 : P := .b s11
def s47 : P := .c s11
def s48 : P := .d s11
def s49 : P := .a s12
def s50 : P := .b s12
def s51 : P := .c s12
def s52 : P := .d s12
def s53 : P := .a s13
def s54 : P := .b s13
def s55 : P := .c s13
def s56 : P := .d s13
def s57 : P := .a s14
def s58 : P := .b s14
def s59 : P := .c s14
def s60 : P := .d s14
def s61 : P := .a s15
def s62 : P := .b s15
def s63 : P := .c s15
def s64 : P := .d s15
def s65 : P := .a s16
def s66 : P := .b s16
def s67 : P := .c s16
def s68 : P := .d s16
def s69 : P := .a s17
def s70 : P := .b s17
def s71 : P := .c s17
def s72 : P := .d s17
def s73 : P := .a s18
def s74 : P := .b s18
def s75 : P := .c s18
def s76 : P := .d s18
def s77 : P := .a s19
def s78 : P := .b s19
def s79 : P := .c s19
def s80 : P := .d s19
def s81 : P := .a s20
def s82 : P := .b s20
def s83 : P := .c s20
def s84 : P := .d s20
def s85 : P := .a s21
def s86 : P := .b s21
def s87 : P := .c s21
def s88 : P := .d s21
def s89 : P := .a s22
def s90 : P := .b s22
def s91 : P := .c s22
def s92 : P := .d s22
def s93 : P := .a s23
def s94 : P := .b s23
def s95 : P := .c s23
def s96 : P := .d s23
def s97 : P := .a s24
def s98 : P := .b s24
def s99 : P := .c s24
def s100 : P := .d s24
def s101 : P := .a s25
def s102 : P := .b s25
def s103 : P := .c s25
def s104 : P := .d s25
def s105 : P := .a s26
def s106 : P := .b s26
def s107 : P := .c s26
def s108 : P := .d s26
def s109 : P := .a s27
def s110 : P := .b s27
def s111 : P := .c s27
def s112 : P := .d s27
def s113 : P := .a s28
def s114 : P := .b s28
def s115 : P := .c s28
def s116 : P := .d s28
def s117 : P := .a s29
def s118 : P := .b s29
def s119 : P := .c s29
def s120 : P := .d s29
def s121 : P := .a s30
def s122 : P := .b s30
def s123 : P := .c s30
def s124 : P := .d s30
def s125 : P := .a s31
def s126 : P := .b s31
def s127 : P := .c s31
def s128 : P := .d s31
def s129 : P := .a s32
def s130 : P := .b s32
def s131 : P := .c s32
def s132 : P := .d s32
def s133 : P := .a s33
def s134 : P := .b s33
def s135 : P := .c s33
def s136 : P := .d s33
def s137 : P := .a s34
def s138 : P := .b s34
def s139 : P := .c s34
def s140 : P := .d s34
def s141 : P := .a s35
def s142 : P := .b s35
def s143 : P := .c s35
def s144 : P := .d s35
def s145 : P := .a s36
def s146 : P := .b s36
def s147 : P := .c s36
def s148 : P := .d s36
def s149 : P := .a s37
def s150 : P := .b s37
def s151 : P := .c s37
def s152 : P := .d s37
def s153 : P := .a s38
def s154 : P := .b s38
def s155 : P := .c s38
def s156 : P := .d s38
def s157 : P := .a s39
def s158 : P := .b s39
def s159 : P := .c s39
def s160 : P := .d s39
def s161 : P := .a s40
def s162 : P := .b s40
def s163 : P := .c s40
def s164 : P := .d s40
def s165 : P := .a s41
def s166 : P := .b s41
def s167 : P := .c s41
def s168 : P := .d s41
def s169 : P := .a s42
def s170 : P := .b s42
def s171 : P := .c s42
def s172 : P := .d s42
def s173 : P := .a s43
def s174 : P := .b s43
def s175 : P := .c s43
def s176 : P := .d s43
def s177 : P := .a s44
def s178 : P := .b s44
def s179 : P := .c s44
def s180 : P := .d s44
def s181 : P := .a s45
def s182 : P := .b s45
def s183 : P := .c s45
def s184 : P := .d s45
def s185 : P := .a s46
def s186 : P := .b s46
def s187 : P := .c s46
def s188 : P := .d s46
def s189 : P := .a s47
def s190 : P := .b s47
def s191 : P := .c s47
def s192 : P := .d s47
def s193 : P := .a s48
def s194 : P := .b s48
def s195 : P := .c s48
def s196 : P := .d s48
def s197 : P := .a s49
def s198 : P := .b s49
def s199 : P := .c s49
def s200 : P := .d s49
def s201 : P := .a s50
def s202 : P := .b s50
def s203 : P := .c s50
def s204 : P := .d s50
def s205 : P := .a s51
def s206 : P := .b s51
def s207 : P := .c s51
def s208 : P := .d s51
def s209 : P := .a s52
def s210 : P := .b s52
def s211 : P := .c s52
def s212 : P := .d s52
def s213 : P := .a s53
def s214 : P := .b s53
def s215 : P := .c s53
def s216 : P := .d s53
def s217 : P := .a s54
def s218 : P := .b s54
def s219 : P := .c s54
def s220 : P := .d s54
def s221 : P := .a s55
def s222 : P := .b s55
def s223 : P := .c s55
def s224 : P := .d s55
def s225 : P := .a s56
def s226 : P := .b s56
def s227 : P := .c s56
def s228 : P := .d s56
def s229 : P := .a s57
def s230 : P := .b s57
def s231 : P := .c s57
def s232 : P := .d s57
def s233 : P := .a s58
def s234 : P := .b s58
def s235 : P := .c s58
def s236 : P := .d s58
def s237 : P := .a s59
def s238 : P := .b s59
def s239 : P := .c s59
def s240 : P := .d s59
def s241 : P := .a s60
def s242 : P := .b s60
def s243 : P := .c s60
def s244 : P := .d s60
def s245 : P := .a s61
def s246 : P := .b s61
def s247 : P := .c s61
def s248 : P := .d s61
def s249 : P := .a s62
def s250 : P := .b s62
def s251 : P := .c s62
def s252 : P := .d s62
def s253 : P := .a s63
def s254 : P := .b s63
def s255 : P := .c s63
def s256 : P := .d s63
def s257 : P := .a s64
def s258 : P := .b s64
def s259 : P := .c s64
def s260 : P := .d s64
def s261 : P := .a s65
def s262 : P := .b s65
def s263 : P := .c s65
def s264 : P := .d s65
def s265 : P := .a s66
def s266 : P := .b s66
def s267 : P := .c s66
def s268 : P := .d s66
def s269 : P := .a s67
def s270 : P := .b s67
def s271 : P := .c s67
def s272 : P := .d s67
def s273 : P := .a s68
def s274 : P := .b s68
def s275 : P := .c s68
def s276 : P := .d s68
def s277 : P := .a s69
def s278 : P := .b s69
def s279 : P := .c s69
def s280 : P := .d s69
def s281 : P := .a s70
def s282 : P := .b s70
def s283 : P := .c s70
def s284 : P := .d s70
def s285 : P := .a s71
def s286 : P := .b s71
def s287 : P := .c s71
def s288 : P := .d s71
def s289 : P := .a s72
def s290 : P := .b s72
def s291 : P := .c s72
def s292 : P := .d s72
def s293 : P := .a s73
def s294 : P := .b s73
def s295 : P := .c s73
def s296 : P := .d s73
def s297 : P := .a s74
def s298 : P := .b s74
def s299 : P := .c s74
def s300 : P := .d s74
def s301 : P := .a s75
def s302 : P := .b s75
def s303 : P := .c s75
def s304 : P := .d s75
def s305 : P := .a s76
def s306 : P := .b s76
def s307 : P := .c s76
def s308 : P := .d s76
def s309 : P := .a s77
def s310 : P := .b s77
def s311 : P := .c s77
def s312 : P := .d s77
def s313 : P := .a s78
def s314 : P := .b s78
def s315 : P := .c s78
def s316 : P := .d s78
def s317 : P := .a s79
def s318 : P := .b s79
def s319 : P := .c s79
def s320 : P := .d s79
def s321 : P := .a s80
def s322 : P := .b s80
def s323 : P := .c s80
def s324 : P := .d s80
def s325 : P := .a s81
def s326 : P := .b s81
def s327 : P := .c s81
def s328 : P := .d s81
def s329 : P := .a s82
def s330 : P := .b s82
def s331 : P := .c s82
def s332 : P := .d s82
def s333 : P := .a s83
def s334 : P := .b s83
def s335 : P := .c s83
def s336 : P := .d s83
def s337 : P := .a s84
def s338 : P := .b s84
def s339 : P := .c s84
def s340 : P := .d s84
def s341 : P := .a s85
def s342 : P := .b s85
def s343 : P := .c s85
def s344 : P := .d s85
def s345 : P := .a s86
def s346 : P := .b s86
def s347 : P := .c s86
def s348 : P := .d s86
def s349 : P := .a s87
def s350 : P := .b s87
def s351 : P := .c s87
def s352 : P := .d s87
def s353 : P := .a s88
def s354 : P := .b s88
def s355 : P := .c s88
def s356 : P := .d s88
def s357 : P := .a s89
def s358 : P := .b s89
def s359 : P := .c s89
def s360 : P := .d s89
def s361 : P := .a s90
def s362 : P := .b s90
def s363 : P := .c s90
def s364 : P := .d s90
def s365 : P := .a s91
def s366 : P := .b s91
def s367 : P := .c s91
def s368 : P := .d s91
def s369 : P := .a s92
def s370 : P := .b s92
def s371 : P := .c s92
def s372 : P := .d s92
def s373 : P := .a s93
def s374 : P := .b s93
def s375 : P := .c s93
def s376 : P := .d s93
def s377 : P := .a s94
def s378 : P := .b s94
def s379 : P := .c s94
def s380 : P := .d s94
def s381 : P := .a s95
def s382 : P := .b s95
def s383 : P := .c s95
def s384 : P := .d s95
def s385 : P := .a s96
def s386 : P := .b s96
def s387 : P := .c s96
def s388 : P := .d s96
def s389 : P := .a s97
def s390 : P := .b s97
def s391 : P := .c s97
def s392 : P := .d s97
def s393 : P := .a s98
def s394 : P := .b s98
def s395 : P := .c s98
def s396 : P := .d s98
def s397 : P := .a s99
def s398 : P := .b s99
def q0 : I := .i0
def q1 : I := .i1
def q2 : I := .i2
def q3 : I := .i3
def q4 : I := .i4
def q5 : I := .i5
def q6 : I := .i6
def q7 : I := .i7
def q8 : I := .nx q0
def q9 : I := .nx q1
def q10 : I := .nx q2
def q11 : I := .nx q3
def q12 : I := .nx q4
def q13 : I := .nx q5
def q14 : I := .nx q6
def q15 : I := .nx q7
def q16 : I := .nx q8
def q17 : I := .nx q9
def q18 : I := .nx q10
def q19 : I := .nx q11
def q20 : I := .nx q12
def q21 : I := .nx q13
def q22 : I := .nx q14
def q23 : I := .nx q15
def q24 : I := .nx q16
def q25 : I := .nx q17
def q26 : I := .nx q18
def q27 : I := .nx q19
noncomputable def R3_0 : RegF := fun call e M nx k => VV.onAny (.bool false) (e.setK q14 (.bool false) fun e => k e M nx)
noncomputable def R3_1 : RegF := fun call e M nx k => e.getK q0 fun v0 => e.getK q1 fun v1 => VV.onAny v0 (callV call s4 [v0, (.i (.ofNat 13))] M nx fun v2 M nx => VV.onAny v1 (callV call s4 [v1, (.i (.ofNat 13))] M nx fun v3 M nx => VV.onAny v2 (VV.onAny v3 (e.setK q2 v2 fun e => e.setK q3 v3 fun e => k e M nx))))
noncomputable def R3_2 : RegF := fun call e M nx k => v_bld [.nils, .nils, .nils, .nils, (.i (.ofNat 0)), (.i (.ofNat 0))] [(4, 1, (.i (.ofNat 8))), (5, 1, (.i (.ofNat 100000)))] fun v0 => alV 28 [.nils, .nils, .nils, .nils, (.i (.ofNat 0)), (.i (.ofNat 0))] M nx fun v1 M nx => stV M v1 v0 6 fun M => e.setK q6 v1 fun e => k e M nx
noncomputable def R3_3 : RegF := fun call e M nx k => e.getK q6 fun v0 => e.getK q2 fun v1 => e.getK q3 fun v2 => (fun M0 => ldV M v0 6 true fun bv3 v3 => VV.onAny v1 (callV call s7 [v1, (.i (.ofNat 0))] M nx fun v4 M nx => VV.onAny v2 (callV call s7 [v2, (.i (.ofNat 1))] M nx fun v5 M nx => bslV 41 3 2 [(.i (.ofNat 0)), (.i (.ofNat 0)), (.i (.ofNat 0)), (.i (.ofNat 0)), (.i (.ofNat 0)), (.i (.ofNat 0))] [(0, 3, v4), (3, 3, v5)] M nx fun v6 M nx => callV call s6 [v3, v6, (.i (.ofNat 60))] M nx fun v7 M nx => alV 38 [.nils, .nils, .nils, (.i (.ofNat 0))] M nx fun v8 M nx => Bool.rec false (stV M v8 v7 4 fun M => e.setK q4 v8 fun e => k e M nx) (keptB M0 M (bv3 :: []))))) M
noncomputable def R3_4 : RegF := fun call e M nx k => e.getK q4 fun v0 => v_fa v0 1 fun v1 => ldV M v1 1 false fun _ v2 => callV call s8 [v2, (.i (.ofNat 0))] M nx fun v3 M nx => VV.onAny v3 (v_ext v3 0 fun v4 => v_ext v3 1 fun v5 => alV 45 [(.i (.ofNat 0)), (.i (.ofNat 0)), (.i (.ofNat 0)), (.i (.ofNat 0)), (.i (.ofNat 0)), (.bool false)] M nx fun v6 M nx => stV M v6 v4 6 fun M => VV.onAny v5 (e.setK q11 v6 fun e => e.setK q9 v5 fun e => k e M nx))
noncomputable def R3_5 : RegF := fun call e M nx k => e.getK q4 fun v0 => v_fa v0 1 fun v1 => ldV M v1 1 false fun _ v2 => callV call s8 [v2, (.i (.ofNat 1))] M nx fun v3 M nx => VV.onAny v3 (v_ext v3 0 fun v4 => v_ext v3 1 fun v5 => alV 45 [(.i (.ofNat 0)), (.i (.ofNat 0)), (.i (.ofNat 0)), (.i (.ofNat 0)), (.i (.ofNat 0)), (.bool false)] M nx fun v6 M nx => stV M v6 v4 6 fun M => VV.onAny v5 (e.setK q12 v6 fun e => e.setK q10 v5 fun e => k e M nx))
noncomputable def R3_6 : RegF := fun call e M nx k => e.getK q3 fun v0 => VV.onAny v0 (v_add v0 (.i (.ofNat 8)) fun v1 => VV.onAny v1 (e.setK q13 v1 fun e => k e M nx))
noncomputable def R3_7 : RegF := fun call e M nx k => e.getK q4 fun v0 => e.getK q9 fun v1 => e.getK q10 fun v2 => e.getK q11 fun v3 => e.getK q2 fun v4 => e.getK q12 fun v5 => e.getK q13 fun v6 => v_fa v0 3 fun v7 => ldV M v7 1 false fun _ v8 => v_eq v8 (.i (.ofNat 0)) fun v9 => VV.onAny v9 (gdK v9 true .off M nx (fun j => v_mv v1 fun v => j v M nx) fun v10 M nx => v_pick v9 v10 (.bool false) fun v11 => VV.onAny v11 (gdK v11 true .off M nx (fun j => v_mv v2 fun v => j v M nx) fun v12 M nx => v_pick v11 v12 (.bool false) fun v13 => VV.onAny v13 (gdK v13 true .off M nx (fun j => v_fa v3 3 fun v => j v M nx) fun v14 M nx => gdK v13 true .off M nx (fun j => ldV M v14 1 false fun _ v => j v M nx) fun v15 M nx => gdK v13 true .off M nx (fun j => v_mv v4 fun v => j v M nx) fun v16 M nx => gdK v13 true .off M nx (fun j => v_add v16 (.i (.ofNat 8)) fun v => j v M nx) fun v17 M nx => gdK v13 true .off M nx (fun j => v_eq v15 v17 fun v => j v M nx) fun v18 M nx => v_pick v13 v18 (.bool false) fun v19 => VV.onAny v19 (gdK v19 true .off M nx (fun j => v_fa v5 3 fun v => j v M nx) fun v20 M nx => gdK v19 true .off M nx (fun j => ldV M v20 1 false fun _ v => j v M nx) fun v21 M nx => gdK v19 true .off M nx (fun j => v_mv v6 fun v => j v M nx) fun v22 M nx => gdK v19 true .off M nx (fun j => v_eq v21 v22 fun v => j v M nx) fun v23 M nx => v_pick v19 v23 (.bool false) fun v24 => VV.onAny v24 (gdK v24 true .no M nx (fun j => callV call s9 [] M nx fun v M nx => j v M nx) fun v25 M nx => v_pick v24 v25 (.bool false) fun v26 => VV.onAny v26 (e.setK q14 v26 fun e => k e M nx))))))
noncomputable def R3_8 : RegF := fun call e M nx k => e.getK q2 fun v0 => e.getK q3 fun v1 => VV.onAny v0 (VV.onAny v1 (v_add v1 (.i (.ofNat 8)) fun v2 => v_lt v0 v2 fun v3 => VV.onAny v3 (gdK v3 true .off M nx (fun j => v_mv v0 fun v => j v M nx) fun v4 M nx => gdK v3 true .off M nx (fun j => v_add v4 (.i (.ofNat 8)) fun v => j v M nx) fun v5 M nx => gdK v3 true .off M nx (fun j => v_mv v1 fun v => j v M nx) fun v6 M nx => gdK v3 true .off M nx (fun j => v_lt v6 v5 fun v => j v M nx) fun v7 M nx => v_pick v3 v7 (.bool false) fun v8 => e.setK q8 v8 fun e => k e M nx)))
noncomputable def R3_9 : RegF := fun call e M nx k => e.getK q2 fun v0 => e.getK q3 fun v1 => VV.onAny v0 (VV.onAny v1 (v_min v0 v1 fun v2 => v_add v2 (.i (.ofNat 16)) fun v3 => VV.onAny v3 (e.setK q13 v3 fun e => k e M nx)))
noncomputable def R3_10 : RegF := fun call e M nx k => VV.onAny (.i (.ofNat 0)) (e.setK q5 (.i (.ofNat 0)) fun e => k e M nx)
noncomputable def R3_11 : RegF := fun call e M nx k => e.getK q5 fun v0 => VV.onAny v0 (v_lt v0 (.i (.ofNat 2)) fun v1 => e.setK q7 v1 fun e => k e M nx)
noncomputable def R3_12 : RegF := fun call e M nx k => e.getK q6 fun v0 => (fun M0 => v_fa v0 0 fun v1 => ldV M v1 1 false fun bv2 v2 => callV call s5 [(.i (.ofNat 8))] M nx fun v3 M nx => v_bld [(.i (.ofNat 0)), (.i (.ofNat 0)), (.i (.ofNat 0)), (.i (.ofNat 0)), (.i (.ofNat 0)), (.i (.ofNat 0)), .nils, .nils] [(0, 1, (.i (.ofNat 2))), (1, 1, (.i (.ofNat 9))), (2, 1, (.i (.ofNat 500))), (3, 1, (.i (.ofNat 500))), (4, 1, (.i (.ofNat 8))), (5, 1, (.i (.negSucc 0))), (7, 1, v3)] fun v4 => bslV 32 8 1 [(.i (.ofNat 0)), (.i (.ofNat 0)), (.i (.ofNat 0)), (.i (.ofNat 0)), (.i (.ofNat 0)), (.i (.ofNat 0)), .nils, .nils] [(0, 8, v4)] M nx fun v5 M nx => appV 32 8 96 v2 v5 M nx fun v6 M nx => v_fa v0 0 fun v7 => Bool.rec false (stV M v7 v6 1 fun M => k e M nx) (keptB M0 M (bv2 :: []))) M
noncomputable def R3_13 : RegF := fun call e M nx k => e.getK q5 fun v0 => VV.onAny v0 (v_add v0 (.i (.ofNat 1)) fun v1 => VV.onAny v1 (e.setK q5 v1 fun e => k e M nx))
noncomputable def S3 : List (P × I) := [(s0, q0), (s1, q1), (s5, q2), (s6, q3), (s9, q4), (s8, q5), (s7, q6), (s21, q7), (s61, q8), (s11, q9), (s13, q10), (s10, q11), (s12, q12), (s14, q13), (s4, q14)]
noncomputable def G3 : F2 := .mk (fun call e M nx k => R3_0 call e M nx fun e M nx => R3_1 call e M nx fun e M nx => R3_2 call e M nx fun e M nx => (fun (j0 : En → Mem → P → Bool) => R3_10 call e M nx fun e M nx => (fun (j3 : En → Mem → P → Bool) => loopK (fun call e M nx k => R3_11 call e M nx fun e M nx => e.getK q7 fun v => v.onB fun c => Bool.rec (k (.x 0) e M nx) (R3_12 call e M nx fun e M nx => R3_13 call e M nx fun e M nx => k .n e M nx) c) call e M nx fun ex e M nx => Ex.rec (j3 e M nx) (k .r e M nx) (fun id => Bool.rec (k (.x id) e M nx) (j3 e M nx) (Nat.beq id 0)) ex) fun e M nx => j0 e M nx) fun e M nx => R3_3 call e M nx fun e M nx => R3_4 call e M nx fun e M nx => R3_5 call e M nx fun e M nx => R3_6 call e M nx fun e M nx => (fun (j1 : En → Mem → P → Bool) => R3_8 call e M nx fun e M nx => (fun (j2 : En → Mem → P → Bool) => e.getK q8 fun v => v.onB fun c => Bool.rec (j2 e M nx) (R3_9 call e M nx fun e M nx => j2 e M nx) c) fun e M nx => j1 e M nx) fun e M nx => R3_7 call e M nx fun e M nx => k .r e M nx) [.t q14] [q0, q1]
noncomputable def G4 : F2 := .spec (lowS)
noncomputable def R5_0 : RegF := fun call e M nx k => VV.onAny (.nils) (e.setK q2 (.nils) fun e => k e M nx)
noncomputable def R5_1 : RegF := fun call e M nx k => e.getK q0 fun v0 => VV.onAny v0 (v_le v0 (.i (.ofNat 1)) fun v1 => e.setK q1 v1 fun e => k e M nx)
noncomputable def R5_2 : RegF := fun call e M nx k => e.getK q0 fun v0 => VV.onAny v0 (v_sub v0 (.i (.ofNat 1)) fun v1 => v_bld [(.i (.ofNat 0)), (.i (.ofNat 0)), (.i (.ofNat 0)), (.i (.ofNat 0)), (.i (.ofNat 0)), (.i (.ofNat 0)), (.i (.ofNat 0)), (.str []), (.str [])] [(0, 1, (.i (.ofNat 1))), (1, 1, v1)] fun v2 => v_bld [(.i (.ofNat 0)), (.i (.ofNat 0)), (.i (.ofNat 0)), (.i (.ofNat 0)), (.i (.ofNat 0)), (.i (.ofNat 0)), (.i (.ofNat 0)), (.str []), (.str [])] [(0, 1, (.i (.ofNat 4)))] fun v3 => bslV 54 9 2 (rep 7 (.i (.ofNat 0)) ++ [(.str []), (.str [])] ++ rep 7 (.i (.ofNat 0)) ++ [(.str []), (.str [])]) [(0, 9, v2), (9, 9, v3)] M nx fun v4 M nx => VV.onAny v4 (e.setK q2 v4 fun e => k e M nx))
noncomputable def R5_3 : RegF := fun call e M nx k => v_bld [(.i (.ofNat 0)), (.i (.ofNat 0)), (.i (.ofNat 0)), (.i (.ofNat 0)), (.i (.ofNat 0)), (.i (.ofNat 0)), (.i (.ofNat 0)), (.str []), (.str [])] [(0, 1, (.i (.ofNat 4)))] fun v0 => bslV 54 9 1 [(.i (.ofNat 0)), (.i (.ofNat 0)), (.i (.ofNat 0)), (.i (.ofNat 0)), (.i (.ofNat 0)), (.i (.ofNat 0)), (.i (.ofNat 0)), (.str []), (.str [])] [(0, 9, v0)] M nx fun v1 M nx => VV.onAny v1 (e.setK q2 v1 fun e => k e M nx)
noncomputable def S5 : List (P × I) := [(s0, q0), (s4, q1), (s2, q2)]
noncomputable def G5 : F2 := .mk (fun call e M nx k => R5_0 call e M nx fun e M nx => R5_1 call e M nx fun e M nx => e.getK q1 fun v => v.onB fun c => Bool.rec (R5_2 call e M nx fun e M nx => k .r e M nx) (R5_3 call e M nx fun e M nx => k .r e M nx) c) [.t q2] [q0]
noncomputable def R6_0 : RegF := fun call e M nx k => e.getK q0 fun v0 => bxV 28 v0 M nx fun v1 M nx => alV 38 [.nils, .nils, .nils, (.i (.ofNat 0))] M nx fun v2 M nx => e.setK q4 v1 fun e => e.setK q3 v2 fun e => k e M nx
noncomputable def R6_1 : RegF := fun call e M nx k => e.getK q4 fun v0 => e.getK q1 fun v1 => e.getK q2 fun v2 => ldV M v0 6 true fun _ v3 => VV.onAny v1 (VV.onAny v2 (callV call s10 [v3, v1, v2] M nx fun v4 M nx => VV.onAny v4 (v_ext v4 0 fun v5 => v_ext v4 1 fun v6 => v_ext v4 2 fun v7 => v_ext v4 3 fun v8 => VV.onAny v5 (VV.onAny v6 (VV.onAny v7 (VV.onAny v8 (e.setK q5 v5 fun e => e.setK q6 v6 fun e => e.setK q7 v7 fun e => e.setK q8 v8 fun e => k e M nx)))))))
noncomputable def R6_2 : RegF := fun call e M nx k => e.getK q5 fun v0 => e.getK q6 fun v1 => e.getK q7 fun v2 => e.getK q8 fun v3 => e.getK q3 fun v4 => VV.onAny v0 (VV.onAny v1 (VV.onAny v2 (VV.onAny v3 (v_bld [.nils, .nils, .nils, (.i (.ofNat 0))] [(0, 1, v0), (1, 1, v1), (2, 1, v2), (3, 1, v3)] fun v5 => stV M v4 v5 4 fun M => k e M nx))))
noncomputable def S6 : List (P × I) := [(s0, q0), (s1, q1), (s2, q2), (s6, q3), (s3, q4), (s7, q5), (s8, q6), (s9, q7), (s10, q8)]
noncomputable def G6 : F2 := .mk (fun call e M nx k => R6_0 call e M nx fun e M nx => R6_1 call e M nx fun e M nx => R6_2 call e M nx fun e M nx => k .r e M nx) [.c q3 4 true] [q0, q1, q2]
noncomputable def R7_0 : RegF := fun call e M nx k => alV 41 [(.i (.ofNat 0)), (.i (.ofNat 0)), (.i (.ofNat 0))] M nx fun v0 M nx => e.setK q2 v0 fun e => k e M nx
noncomputable def R7_1 : RegF := fun call e M nx k => e.getK q0 fun v0 => e.getK q1 fun v1 => e.getK q2 fun v2 => VV.onAny v0 (VV.onAny v1 (v_bld [(.i (.ofNat 0)), (.i (.ofNat 0)), (.i (.ofNat 0))] [(0, 1, v0), (1, 1, (.i (.negSucc 0))), (2, 1, v1)] fun v3 => stV M v2 v3 3 fun M => k e M nx))
noncomputable def S7 : List (P × I) := [(s0, q0), (s1, q1), (s4, q2)]
noncomputable def G7 : F2 := .mk (fun call e M nx k => R7_0 call e M nx fun e M nx => R7_1 call e M nx fun e M nx => k .r e M nx) [.c q2 3 true] [q0, q1]
noncomputable def R8_0 : RegF := fun call e M nx k => alV 45 [(.i (.ofNat 0)), (.i (.ofNat 0)), (.i (.ofNat 0)), (.i (.ofNat 0)), (.i (.ofNat 0)), (.bool false)] M nx fun v0 M nx => VV.onAny (.bool false) (e.setK q3 v0 fun e => e.setK q6 (.bool false) fun e => k e M nx)
noncomputable def R8_1 : RegF := fun call e M nx k => e.getK q3 fun v0 => v_bld [(.i (.ofNat 0)), (.i (.ofNat 0)), (.i (.ofNat 0)), (.i (.ofNat 0)), (.i (.ofNat 0)), (.bool false)] [] fun v1 => stV M v0 v1 6 fun M => VV.onAny (.bool false) (e.setK q6 (.bool false) fun e => k e M nx)
noncomputable def R8_2 : RegF := fun call e M nx k => VV.onAny (.i (.ofNat 0)) (e.setK q2 (.i (.ofNat 0)) fun e => k e M nx)
noncomputable def R8_3 : RegF := fun call e M nx k => e.getK q2 fun v0 => e.getK q0 fun v1 => VV.onAny v0 (VV.onAny v1 (v_lenS v1 fun v2 => v_lt v0 v2 fun v3 => e.setK q4 v3 fun e => k e M nx))
noncomputable def R8_4 : RegF := fun call e M nx k => e.getK q0 fun v0 => e.getK q2 fun v1 => e.getK q1 fun v2 => VV.onAny v0 (VV.onAny v1 (v_ixS v0 v1 6 fun v3 => v_fa v3 0 fun v4 => ldV M v4 1 false fun _ v5 => VV.onAny v2 (v_eq v5 v2 fun v6 => e.setK q5 v6 fun e => k e M nx)))
noncomputable def R8_5 : RegF := fun call e M nx k => e.getK q2 fun v0 => VV.onAny v0 (v_add v0 (.i (.ofNat 1)) fun v1 => VV.onAny v1 (e.setK q2 v1 fun e => k e M nx))
noncomputable def R8_6 : RegF := fun call e M nx k => e.getK q0 fun v0 => e.getK q2 fun v1 => e.getK q3 fun v2 => VV.onAny v0 (VV.onAny v1 (v_ixS v0 v1 6 fun v3 => ldV M v3 6 true fun _ v4 => stV M v2 v4 6 fun M => VV.onAny (.bool true) (e.setK q6 (.bool true) fun e => k e M nx)))
noncomputable def S8 : List (P × I) := [(s0, q0), (s1, q1), (s6, q2), (s4, q3), (s10, q4), (s19, q5), (s5, q6)]
noncomputable def G8 : F2 := .mk (fun call e M nx k => R8_0 call e M nx fun e M nx => (fun (j0 : En → Mem → P → Bool) => R8_2 call e M nx fun e M nx => (fun (j1 : En → Mem → P → Bool) => loopK (fun call e M nx k => R8_3 call e M nx fun e M nx => e.getK q4 fun v => v.onB fun c => Bool.rec (k (.x 0) e M nx) (R8_4 call e M nx fun e M nx => e.getK q5 fun v => v.onB fun c => Bool.rec (R8_5 call e M nx fun e M nx => k .n e M nx) (R8_6 call e M nx fun e M nx => k .r e M nx) c) c) call e M nx fun ex e M nx => Ex.rec (j1 e M nx) (k .r e M nx) (fun id => Bool.rec (k (.x id) e M nx) (j1 e M nx) (Nat.beq id 0)) ex) fun e M nx => j0 e M nx) fun e M nx => R8_1 call e M nx fun e M nx => k .r e M nx) [.c q3 6 true, .t q6] [q0, q1]
noncomputable def R9_0 : RegF := fun call e M nx k => VV.onAny (.bool false) (e.setK q4 (.bool false) fun e => k e M nx)
noncomputable def R9_1 : RegF := fun call e M nx k => callV call s11 [] M nx fun v0 M nx => v_bld [(.i (.ofNat 0)), (.i (.ofNat 0)), (.i (.ofNat 0))] [(0, 1, (.i (.ofNat 2))), (1, 1, (.i (.negSucc 0)))] fun v1 => bslV 41 3 1 [(.i (.ofNat 0)), (.i (.ofNat 0)), (.i (.ofNat 0))] [(0, 3, v1)] M nx fun v2 M nx => callV call s10 [v0, v2, (.i (.ofNat 8))] M nx fun v3 M nx => VV.onAny v3 (v_ext v3 0 fun v4 => v_ext v3 1 fun v5 => v_ext v3 2 fun v6 => v_ext v3 3 fun v7 => VV.onAny v4 (VV.onAny v5 (VV.onAny v6 (VV.onAny v7 (e.setK q2 v4 fun e => e.setK q0 v5 fun e => e.setK q1 v7 fun e => k e M nx)))))
noncomputable def R9_2 : RegF := fun call e M nx k => e.getK q1 fun v0 => e.getK q2 fun v1 => e.getK q0 fun v2 => VV.onAny v0 (v_ne v0 (.i (.ofNat 0)) fun v3 => VV.onAny v3 (gdK v3 false .off M nx (fun j => v_mv v1 fun v => j v M nx) fun v4 M nx => gdK v3 false .off M nx (fun j => v_bld [(.i (.ofNat 0)), (.bool false)] [(0, 1, (.i (.ofNat 1)))] fun v => j v M nx) fun v5 M nx => gdK v3 false .off M nx (fun j => v_bld [(.i (.ofNat 0)), (.bool false)] [(0, 1, (.i (.ofNat 1)))] fun v => j v M nx) fun v6 M nx => gdK v3 false .off M nx (fun j => v_bld [(.i (.ofNat 0)), (.bool false)] [(0, 1, (.i (.ofNat 1)))] fun v => j v M nx) fun v7 M nx => gdK v3 false .off M nx (fun j => v_bld [(.i (.ofNat 0)), (.bool false)] [(0, 1, (.i (.ofNat 1)))] fun v => j v M nx) fun v8 M nx => gdK v3 false .off M nx (fun j => v_bld [(.i (.ofNat 0)), (.bool false)] [(0, 1, (.i (.ofNat 1)))] fun v => j v M nx) fun v9 M nx => gdK v3 false .off M nx (fun j => v_bld [(.i (.ofNat 0)), (.bool false)] [] fun v => j v M nx) fun v10 M nx => gdK v3 false .off M nx (fun j => v_bld [(.i (.ofNat 0)), (.bool false)] [] fun v => j v M nx) fun v11 M nx => gdK v3 false .off M nx (fun j => v_bld [(.i (.ofNat 0)), (.bool false)] [] fun v => j v M nx) fun v12 M nx => gdK v3 false .no M nx (fun j => bslV 60 2 8 ([(.i (.ofNat 0)), (.bool false), (.i (.ofNat 0)), (.bool false), (.i (.ofNat 0)), (.bool false), (.i (.ofNat 0)), (.bool false), (.i (.ofNat 0)), (.bool false), (.i (.ofNat 0)), (.bool false), (.i (.ofNat 0)), (.bool false), (.i (.ofNat 0)), (.bool false)]) [(0, 2, v5), (2, 2, v6), (4, 2, v7), (6, 2, v8), (8, 2, v9), (10, 2, v10), (12, 2, v11), (14, 2, v12)] M nx fun v M nx => j v M nx) fun v13 M nx => gdK v3 false .no M nx (fun j => callV call s12 [v4, v13] M nx fun v M nx => j v M nx) fun v14 M nx => gdK v3 false .off M nx (fun j => v_not v14 fun v => j v M nx) fun v15 M nx => v_pick v3 (.bool true) v15 fun v16 => VV.onAny v16 (gdK v16 false .off M nx (fun j => v_mv v2 fun v => j v M nx) fun v17 M nx => gdK v16 false .off M nx (fun j => v_lenS v17 fun v => j v M nx) fun v18 M nx => gdK v16 false .off M nx (fun j => v_ne v18 (.i (.ofNat 1)) fun v => j v M nx) fun v19 M nx => v_pick v16 (.bool true) v19 fun v20 => e.setK q3 v20 fun e => k e M nx)))
noncomputable def R9_3 : RegF := fun call e M nx k => e.getK q0 fun v0 => VV.onAny v0 (v_ixS v0 (.i (.ofNat 0)) 6 fun v1 => ldV M v1 6 true fun _ v2 => callV call s13 [v2] M nx fun v3 M nx => v_not v3 fun v4 => VV.onAny v4 (gdK v4 true .off M nx (fun j => v_mv v0 fun v => j v M nx) fun v5 M nx => gdK v4 true .off M nx (fun j => v_ixS v5 (.i (.ofNat 0)) 6 fun v => j v M nx) fun v6 M nx => gdK v4 true .off M nx (fun j => v_fa v6 3 fun v => j v M nx) fun v7 M nx => gdK v4 true .off M nx (fun j => ldV M v7 1 false fun _ v => j v M nx) fun v8 M nx => gdK v4 true .off M nx (fun j => v_eq v8 (.i (.ofNat 8)) fun v => j v M nx) fun v9 M nx => v_pick v4 v9 (.bool false) fun v10 => VV.onAny v10 (gdK v10 true .off M nx (fun j => v_bld [(.i (.ofNat 0)), .nils, .nils, .nils, .nils] [] fun v => j v M nx) fun v11 M nx => gdK v10 true .no M nx (fun j => callV call s14 [v11] M nx fun v M nx => j v M nx) fun v12 M nx => v_pick v10 v12 (.bool false) fun v13 => VV.onAny v13 (e.setK q4 v13 fun e => k e M nx))))
noncomputable def R9_4 : RegF := fun call e M nx k => VV.onAny (.bool false) (e.setK q4 (.bool false) fun e => k e M nx)
noncomputable def S9 : List (P × I) := [(s2, q0), (s4, q1), (s1, q2), (s34, q3), (s0, q4)]
noncomputable def G9 : F2 := .mk (fun call e M nx k => R9_0 call e M nx fun e M nx => R9_1 call e M nx fun e M nx => R9_2 call e M nx fun e M nx => e.getK q3 fun v => v.onB fun c => Bool.rec (R9_3 call e M nx fun e M nx => k .r e M nx) (R9_4 call e M nx fun e M nx => k .r e M nx) c) [.t q4] []
noncomputable def R10_0 : RegF := fun call e M nx k => e.getK q0 fun v0 => bxV 28 v0 M nx fun v1 M nx => VV.onAny (.nils) (VV.onAny (.nils) (VV.onAny (.nils) (VV.onAny (.i (.ofNat 0)) (e.setK q5 v1 fun e => e.setK q7 (.nils) fun e => e.setK q8 (.nils) fun e => e.setK q9 (.nils) fun e => e.setK q10 (.i (.ofNat 0)) fun e => k e M nx))))
noncomputable def R10_1 : RegF := fun call e M nx k => e.getK q5 fun v0 => ldV M v0 6 true fun _ v1 => callV call s15 [v1] M nx fun v2 M nx => VV.onAny v2 (v_ext v2 0 fun v3 => v_ext v2 1 fun v4 => VV.onAny v3 (VV.onAny v4 (e.setK q4 v3 fun e => e.setK q3 v4 fun e => k e M nx)))
noncomputable def R10_2 : RegF := fun call e M nx k => e.getK q3 fun v0 => VV.onAny v0 (v_ne v0 (.i (.ofNat 0)) fun v1 => e.setK q6 v1 fun e => k e M nx)
noncomputable def R10_3 : RegF := fun call e M nx k => e.getK q4 fun v0 => e.getK q1 fun v1 => e.getK q2 fun v2 => VV.onAny v0 (VV.onAny v1 (VV.onAny v2 (callV call s16 [v0, v1, v2] M nx fun v3 M nx => k e M nx)))
noncomputable def R10_4 : RegF := fun call e M nx k => e.getK q4 fun v0 => (fun M0 => VV.onAny v0 (v_nck v0 fun v1 => v_fa v1 1 fun v2 => ldV M v2 1 false fun bv3 v3 => VV.onAny v0 (v_nck v0 fun v4 => v_fa v4 0 fun v5 => ldV M v5 1 false fun _ v6 => callV call s17 [v6] M nx fun v7 M nx => VV.onAny v0 (v_nck v0 fun v8 => v_fa v8 0 fun v9 => ldV M v9 1 false fun bv10 v10 => callV call s18 [v10] M nx fun v11 M nx => VV.onAny v3 (VV.onAny v7 (VV.onAny v11 (VV.onAny (.i (.ofNat 0)) (Bool.rec false (e.setK q7 v3 fun e => e.setK q8 v7 fun e => e.setK q9 v11 fun e => e.setK q10 (.i (.ofNat 0)) fun e => k e M nx) (keptB M0 M (bv10 :: (bv3 :: []))))))))))) M
noncomputable def R10_5 : RegF := fun call e M nx k => e.getK q3 fun v0 => VV.onAny v0 (VV.onAny (.nils) (VV.onAny (.nils) (VV.onAny (.nils) (VV.onAny v0 (e.setK q7 (.nils) fun e => e.setK q8 (.nils) fun e => e.setK q9 (.nils) fun e => e.setK q10 v0 fun e => k e M nx)))))
noncomputable def S10 : List (P × I) := [(s0, q0), (s1, q1), (s2, q2), (s11, q3), (s10, q4), (s3, q5), (s18, q6), (s6, q7), (s7, q8), (s8, q9), (s9, q10)]
noncomputable def G10 : F2 := .mk (fun call e M nx k => R10_0 call e M nx fun e M nx => R10_1 call e M nx fun e M nx => R10_2 call e M nx fun e M nx => e.getK q6 fun v => v.onB fun c => Bool.rec (R10_3 call e M nx fun e M nx => R10_4 call e M nx fun e M nx => k .r e M nx) (R10_5 call e M nx fun e M nx => k .r e M nx) c) [.t q7, .t q8, .t q9, .t q10] [q0, q1, q2]
noncomputable def R11_0 : RegF := fun call e M nx k => alV 28 [.nils, .nils, .nils, .nils, (.i (.ofNat 0)), (.i (.ofNat 0))] M nx fun v0 M nx => e.setK q0 v0 fun e => k e M nx
noncomputable def R11_1 : RegF := fun call e M nx k => v_bld [(.i (.ofNat 0)), (.i (.ofNat 0)), (.i (.ofNat 0)), (.i (.ofNat 0)), (.i (.ofNat 0)), (.i (.ofNat 0)), (.i (.ofNat 0)), (.str []), (.str [])] [(0, 1, (.i (.ofNat 2)))] fun v0 => v_bld [(.i (.ofNat 0)), (.i (.ofNat 0)), (.i (.ofNat 0)), (.i (.ofNat 0)), (.i (.ofNat 0)), (.i (.ofNat 0)), (.i (.ofNat 0)), (.str []), (.str [])] [(0, 1, (.i (.ofNat 1))), (1, 1, (.i (.ofNat 3)))] fun v1 => v_bld [(.i (.ofNat 0)), (.i (.ofNat 0)), (.i (.ofNat 0)), (.i (.ofNat 0)), (.i (.ofNat 0)), (.i (.ofNat 0)), (.i (.ofNat 0)), (.str []), (.str [])] [(0, 1, (.i (.ofNat 3)))] fun v2 => bslV 54 9 3 (rep 7 (.i (.ofNat 0)) ++ [(.str []), (.str [])] ++ rep 7 (.i (.ofNat 0)) ++ [(.str []), (.str [])] ++ rep 7 (.i (.ofNat 0)) ++ [(.str []), (.str [])]) [(0, 9, v0), (9, 9, v1), (18, 9, v2)] M nx fun v3 M nx => VV.onAny v3 (e.setK q2 v3 fun e => k e M nx)
noncomputable def R11_2 : RegF := fun call e M nx k => v_bld [(.i (.ofNat 0)), (.i (.ofNat 0)), (.i (.ofNat 0)), (.i (.ofNat 0)), (.i (.ofNat 0)), (.i (.ofNat 0)), (.i (.ofNat 0)), (.str []), (.str [])] [(0, 1, (.i (.ofNat 2)))] fun v0 => v_bld [(.i (.ofNat 0)), (.i (.ofNat 0)), (.i (.ofNat 0)), (.i (.ofNat 0)), (.i (.ofNat 0)), (.i (.ofNat 0)), (.i (.ofNat 0)), (.str []), (.str [])] [(0, 1, (.i (.ofNat 3)))] fun v1 => bslV 54 9 2 (rep 7 (.i (.ofNat 0)) ++ [(.str []), (.str [])] ++ rep 7 (.i (.ofNat 0)) ++ [(.str []), (.str [])]) [(0, 9, v0), (9, 9, v1)] M nx fun v2 M nx => VV.onAny v2 (e.setK q1 v2 fun e => k e M nx)
noncomputable def R11_3 : RegF := fun call e M nx k => e.getK q1 fun v0 => e.getK q2 fun v1 => e.getK q0 fun v2 => v_bld [(.i (.ofNat 0)), (.i (.ofNat 0))] [(0, 1, (.i (.ofNat 1))), (1, 1, (.i (.ofNat 9)))] fun v3 => bslV 77 2 1 [(.i (.ofNat 0)), (.i (.ofNat 0))] [(0, 2, v3)] M nx fun v4 M nx => bslV 3 1 1 [(.i (.ofNat 0))] [(0, 1, (.i (.ofNat 0)))] M nx fun v5 M nx => VV.onAny v0 (v_bld [(.i (.ofNat 0)), (.i (.ofNat 0)), (.i (.ofNat 0)), (.i (.ofNat 0)), (.i (.ofNat 0)), (.i (.ofNat 0)), .nils, .nils] [(0, 1, (.i (.ofNat 2))), (1, 1, (.i (.ofNat 9))), (2, 1, (.i (.ofNat 50))), (3, 1, (.i (.ofNat 40))), (4, 1, (.i (.ofNat 5))), (5, 1, (.i (.negSucc 0))), (6, 1, v5), (7, 1, v0)] fun v6 => bslV 32 8 1 [(.i (.ofNat 0)), (.i (.ofNat 0)), (.i (.ofNat 0)), (.i (.ofNat 0)), (.i (.ofNat 0)), (.i (.ofNat 0)), .nils, .nils] [(0, 8, v6)] M nx fun v7 M nx => VV.onAny v1 (v_bld [(.i (.ofNat 0)), .nils] [(1, 1, v1)] fun v8 => bslV 79 2 1 [(.i (.ofNat 0)), .nils] [(0, 2, v8)] M nx fun v9 M nx => v_bld [.nils, .nils, .nils, .nils, (.i (.ofNat 0)), (.i (.ofNat 0))] [(4, 1, (.i (.ofNat 8))), (5, 1, (.i (.ofNat 100))), (2, 1, v4), (0, 1, v7), (1, 1, v9)] fun v10 => stV M v2 v10 6 fun M => k e M nx))
noncomputable def S11 : List (P × I) := [(s0, q0), (s2, q1), (s1, q2)]
noncomputable def G11 : F2 := .mk (fun call e M nx k => R11_0 call e M nx fun e M nx => R11_1 call e M nx fun e M nx => R11_2 call e M nx fun e M nx => R11_3 call e M nx fun e M nx => k .r e M nx) [.c q0 6 true] []
noncomputable def R12_0 : RegF := fun call e M nx k => VV.onAny (.bool false) (e.setK q6 (.bool false) fun e => k e M nx)
noncomputable def R12_1 : RegF := fun call e M nx k => e.getK q0 fun v0 => e.getK q1 fun v1 => VV.onAny v0 (v_lenS v0 fun v2 => VV.onAny v1 (v_lenS v1 fun v3 => v_ne v2 v3 fun v4 => e.setK q3 v4 fun e => k e M nx))
noncomputable def R12_2 : RegF := fun call e M nx k => VV.onAny (.bool true) (e.setK q6 (.bool true) fun e => k e M nx)
noncomputable def R12_3 : RegF := fun call e M nx k => VV.onAny (.i (.ofNat 0)) (e.setK q2 (.i (.ofNat 0)) fun e => k e M nx)
noncomputable def R12_4 : RegF := fun call e M nx k => e.getK q2 fun v0 => e.getK q0 fun v1 => VV.onAny v0 (VV.onAny v1 (v_lenS v1 fun v2 => v_lt v0 v2 fun v3 => e.setK q4 v3 fun e => k e M nx))
noncomputable def R12_5 : RegF := fun call e M nx k => e.getK q0 fun v0 => e.getK q2 fun v1 => e.getK q1 fun v2 => (fun M0 => VV.onAny v0 (VV.onAny v1 (v_ixS v0 v1 2 fun v3 => ldV M v3 2 true fun _ v4 => VV.onAny v2 (VV.onAny v1 (v_ixS v2 v1 2 fun v5 => ldV M v5 2 true fun _ v6 => v_aeq true [(0, .i), (1, .b)] v4 v6 fun v7 => Bool.rec false (e.setK q5 v7 fun e => k e M nx) (keptB M0 M [])))))) M
noncomputable def R12_6 : RegF := fun call e M nx k => e.getK q2 fun v0 => VV.onAny v0 (v_add v0 (.i (.ofNat 1)) fun v1 => VV.onAny v1 (e.setK q2 v1 fun e => k e M nx))
noncomputable def R12_7 : RegF := fun call e M nx k => VV.onAny (.bool false) (e.setK q6 (.bool false) fun e => k e M nx)
noncomputable def R12_8 : RegF := fun call e M nx k => VV.onAny (.bool false) (e.setK q6 (.bool false) fun e => k e M nx)
noncomputable def S12 : List (P × I) := [(s0, q0), (s1, q1), (s5, q2), (s10, q3), (s14, q4), (s25, q5), (s4, q6)]
noncomputable def G12 : F2 := .mk (fun call e M nx k => R12_0 call e M nx fun e M nx => R12_1 call e M nx fun e M nx => e.getK q3 fun v => v.onB fun c => Bool.rec ((fun (j0 : En → Mem → P → Bool) => R12_3 call e M nx fun e M nx => (fun (j1 : En → Mem → P → Bool) => loopK (fun call e M nx k => R12_4 call e M nx fun e M nx => e.getK q4 fun v => v.onB fun c => Bool.rec (k (.x 0) e M nx) (R12_5 call e M nx fun e M nx => e.getK q5 fun v => v.onB fun c => Bool.rec (R12_6 call e M nx fun e M nx => k .n e M nx) (R12_7 call e M nx fun e M nx => k .r e M nx) c) c) call e M nx fun ex e M nx => Ex.rec (j1 e M nx) (k .r e M nx) (fun id => Bool.rec (k (.x id) e M nx) (j1 e M nx) (Nat.beq id 0)) ex) fun e M nx => j0 e M nx) fun e M nx => R12_2 call e M nx fun e M nx => k .r e M nx) (R12_8 call e M nx fun e M nx => k .r e M nx) c) [.t q6] [q0, q1]
noncomputable def R13_0 : RegF := fun call e M nx k => e.getK q0 fun v0 => bxV 45 v0 M nx fun v1 M nx => VV.onAny (.bool false) (e.setK q1 v1 fun e => e.setK q2 (.bool false) fun e => k e M nx)
noncomputable def R13_1 : RegF := fun call e M nx k => e.getK q1 fun v0 => v_fa v0 3 fun v1 => ldV M v1 1 false fun _ v2 => v_fa v0 2 fun v3 => ldV M v3 1 false fun _ v4 => v_lt v4 v2 fun v5 => VV.onAny v5 (e.setK q2 v5 fun e => k e M nx)
noncomputable def S13 : List (P × I) := [(s0, q0), (s1, q1), (s2, q2)]
noncomputable def G13 : F2 := .mk (fun call e M nx k => R13_0 call e M nx fun e M nx => R13_1 call e M nx fun e M nx => k .r e M nx) [.t q2] [q0]
noncomputable def R14_0 : RegF := fun call e M nx k => e.getK q0 fun v0 => bxV 66 v0 M nx fun v1 M nx => VV.onAny (.bool false) (e.setK q1 v1 fun e => e.setK q2 (.bool false) fun e => k e M nx)
noncomputable def R14_1 : RegF := fun call e M nx k => e.getK q1 fun v0 => (fun M0 => ldV M v0 5 true fun _ v1 => callV call s20 [v1] M nx fun v2 M nx => v_fa v0 2 fun v3 => ldV M v3 1 false fun bv4 v4 => v_fa v0 1 fun v5 => ldV M v5 1 false fun bv6 v6 => v_lenS v6 fun v7 => callV call s19 [v2, v4, v7] M nx fun v8 M nx => VV.onAny v8 (Bool.rec false (e.setK q2 v8 fun e => k e M nx) (keptB M0 M (bv6 :: (bv4 :: []))))) M
noncomputable def S14 : List (P × I) := [(s0, q0), (s1, q1), (s2, q2)]
noncomputable def G14 : F2 := .mk (fun call e M nx k => R14_0 call e M nx fun e M nx => R14_1 call e M nx fun e M nx => k .r e M nx) [.t q2] [q0]
noncomputable def R15_0 : RegF := fun call e M nx k => e.getK q0 fun v0 => bxV 28 v0 M nx fun v1 M nx => VV.onAny (.nil) (VV.onAny (.i (.ofNat 0)) (e.setK q2 v1 fun e => e.setK q5 (.nil) fun e => e.setK q6 (.i (.ofNat 0)) fun e => k e M nx))
noncomputable def R15_1 : RegF := fun call e M nx k => e.getK q2 fun v0 => ldV M v0 6 true fun _ v1 => callV call s21 [v1] M nx fun v2 M nx => VV.onAny v2 (v_ext v2 0 fun v3 => v_ext v2 1 fun v4 => VV.onAny v3 (VV.onAny v4 (e.setK q4 v3 fun e => e.setK q1 v4 fun e => k e M nx)))
noncomputable def R15_2 : RegF := fun call e M nx k => e.getK q1 fun v0 => VV.onAny v0 (v_ne v0 (.i (.ofNat 0)) fun v1 => e.setK q3 v1 fun e => k e M nx)
noncomputable def R15_3 : RegF := fun call e M nx k => e.getK q4 fun v0 => VV.onAny v0 (v_bld [.nil, .nils] [(0, 1, v0)] fun v1 => bxV 73 v1 M nx fun v2 M nx => VV.onAny v2 (VV.onAny (.i (.ofNat 0)) (e.setK q5 v2 fun e => e.setK q6 (.i (.ofNat 0)) fun e => k e M nx)))
noncomputable def R15_4 : RegF := fun call e M nx k => e.getK q1 fun v0 => VV.onAny v0 (VV.onAny (.nil) (VV.onAny v0 (e.setK q5 (.nil) fun e => e.setK q6 v0 fun e => k e M nx)))
noncomputable def S15 : List (P × I) := [(s0, q0), (s5, q1), (s1, q2), (s12, q3), (s4, q4), (s2, q5), (s3, q6)]
noncomputable def G15 : F2 := .mk (fun call e M nx k => R15_0 call e M nx fun e M nx => R15_1 call e M nx fun e M nx => R15_2 call e M nx fun e M nx => e.getK q3 fun v => v.onB fun c => Bool.rec (R15_3 call e M nx fun e M nx => k .r e M nx) (R15_4 call e M nx fun e M nx => k .r e M nx) c) [.t q5, .t q6] [q0]
noncomputable def R16_0 : RegF := fun call e M nx k => VV.onAny (.nils) (e.setK q9 (.nils) fun e => k e M nx)
noncomputable def R16_1 : RegF := fun call e M nx k => e.getK q0 fun v0 => VV.onAny v0 (v_nqP false v0 fun v1 => e.setK q5 v1 fun e => k e M nx)
noncomputable def R16_2 : RegF := fun call e M nx k => VV.onAny (.nils) (e.setK q3 (.nils) fun e => k e M nx)
noncomputable def R16_3 : RegF := fun call e M nx k => e.getK q0 fun v0 => e.getK q3 fun v1 => VV.onAny v0 (VV.onAny v0 (v_nck v0 fun v2 => v_fa v2 1 fun v3 => ldV M v3 1 false fun _ v4 => VV.onAny v1 (appV 60 2 16 v4 v1 M nx fun v5 M nx => v_nck v0 fun v6 => v_fa v6 1 fun v7 => stV M v7 v5 1 fun M => k e M nx)))
noncomputable def R16_4 : RegF := fun call e M nx k => e.getK q3 fun v0 => VV.onAny v0 (VV.onAny v0 (e.setK q9 v0 fun e => k e M nx))
noncomputable def R16_5 : RegF := fun call e M nx k => e.getK q2 fun v0 => VV.onAny v0 (v_min v0 (.i (.ofNat 4096)) fun v1 => v_max v1 (.i (.ofNat 0)) fun v2 => VV.onAny (.i (.ofNat 0)) (e.setK q6 v2 fun e => e.setK q4 (.i (.ofNat 0)) fun e => k e M nx))
noncomputable def R16_6 : RegF := fun call e M nx k => e.getK q4 fun v0 => e.getK q6 fun v1 => v_lt v0 v1 fun v2 => e.setK q7 v2 fun e => k e M nx
noncomputable def R16_7 : RegF := fun call e M nx k => e.getK q0 fun v0 => VV.onAny v0 (v_nck v0 fun v1 => v_fa v1 0 fun v2 => ldV M v2 1 false fun _ v3 => callV call s22 [v3] M nx fun v4 M nx => alV 3 [(.i (.ofNat 0))] M nx fun v5 M nx => stV M v5 v4 1 fun M => e.setK q8 v5 fun e => k e M nx)
noncomputable def R16_8 : RegF := fun call e M nx k => e.getK q3 fun v0 => e.getK q0 fun v1 => e.getK q1 fun v2 => e.getK q8 fun v3 => (fun M0 => VV.onAny v0 (VV.onAny v1 (v_nck v1 fun v4 => v_fa v4 0 fun v5 => ldV M v5 1 false fun bv6 v6 => VV.onAny v2 (v_mkf s25 [] [v3] fun v7 => callV call s24 [v2, v7] M nx fun v8 M nx => callV call s23 [v6, v8] M nx fun v9 M nx => bslV 60 2 1 [(.i (.ofNat 0)), (.bool false)] [(0, 2, v9)] M nx fun v10 M nx => appV 60 2 16 v0 v10 M nx fun v11 M nx => VV.onAny v11 (Bool.rec false (e.setK q3 v11 fun e => k e M nx) (keptB M0 M (bv6 :: []))))))) M
noncomputable def R16_9 : RegF := fun call e M nx k => e.getK q4 fun v0 => v_add v0 (.i (.ofNat 1)) fun v1 => VV.onAny v1 (e.setK q4 v1 fun e => k e M nx)
noncomputable def R16_10 : RegF := fun call e M nx k => VV.onAny (.nils) (e.setK q9 (.nils) fun e => k e M nx)
noncomputable def S16 : List (P × I) := [(s0, q0), (s1, q1), (s2, q2), (s7, q3), (s14, q4), (s10, q5), (s13, q6), (s15, q7), (s8, q8), (s6, q9)]
noncomputable def G16 : F2 := .mk (fun call e M nx k => R16_0 call e M nx fun e M nx => R16_1 call e M nx fun e M nx => e.getK q5 fun v => v.onB fun c => Bool.rec (R16_2 call e M nx fun e M nx => (fun (j0 : En → Mem → P → Bool) => R16_5 call e M nx fun e M nx => (fun (j1 : En → Mem → P → Bool) => loopK (fun call e M nx k => R16_6 call e M nx fun e M nx => e.getK q7 fun v => v.onB fun c => Bool.rec (k (.x 0) e M nx) (R16_7 call e M nx fun e M nx => R16_8 call e M nx fun e M nx => R16_9 call e M nx fun e M nx => k .n e M nx) c) call e M nx fun ex e M nx => Ex.rec (j1 e M nx) (k .r e M nx) (fun id => Bool.rec (k (.x id) e M nx) (j1 e M nx) (Nat.beq id 0)) ex) fun e M nx => j0 e M nx) fun e M nx => R16_3 call e M nx fun e M nx => R16_4 call e M nx fun e M nx => k .r e M nx) (R16_10 call e M nx fun e M nx => k .r e M nx) c) [.t q9] [q0, q1, q2]
noncomputable def R17_0 : RegF := fun call e M nx k => VV.onAny (.nils) (e.setK q2 (.nils) fun e => k e M nx)
noncomputable def R17_1 : RegF := fun call e M nx k => e.getK q0 fun v0 => VV.onAny v0 (v_nqP false v0 fun v1 => e.setK q1 v1 fun e => k e M nx)
noncomputable def R17_2 : RegF := fun call e M nx k => e.getK q0 fun v0 => VV.onAny v0 (v_nck v0 fun v1 => v_fa v1 12 fun v2 => ldV M v2 1 false fun _ v3 => callV call s26 [v3] M nx fun v4 M nx => VV.onAny v4 (e.setK q2 v4 fun e => k e M nx))
noncomputable def R17_3 : RegF := fun call e M nx k => VV.onAny (.nils) (e.setK q2 (.nils) fun e => k e M nx)
noncomputable def S17 : List (P × I) := [(s0, q0), (s4, q1), (s2, q2)]
noncomputable def G17 : F2 := .mk (fun call e M nx k => R17_0 call e M nx fun e M nx => R17_1 call e M nx fun e M nx => e.getK q1 fun v => v.onB fun c => Bool.rec (R17_2 call e M nx fun e M nx => k .r e M nx) (R17_3 call e M nx fun e M nx => k .r e M nx) c) [.t q2] [q0]
noncomputable def R18_0 : RegF := fun call e M nx k => VV.onAny (.nils) (e.setK q2 (.nils) fun e => k e M nx)
noncomputable def R18_1 : RegF := fun call e M nx k => e.getK q0 fun v0 => VV.onAny v0 (v_nqP false v0 fun v1 => e.setK q1 v1 fun e => k e M nx)
noncomputable def R18_2 : RegF := fun call e M nx k => e.getK q0 fun v0 => VV.onAny v0 (v_nck v0 fun v1 => v_fa v1 11 fun v2 => ldV M v2 1 false fun _ v3 => callV call s27 [v3] M nx fun v4 M nx => VV.onAny v4 (e.setK q2 v4 fun e => k e M nx))
noncomputable def R18_3 : RegF := fun call e M nx k => VV.onAny (.nils) (e.setK q2 (.nils) fun e => k e M nx)
noncomputable def S18 : List (P × I) := [(s0, q0), (s4, q1), (s2, q2)]
noncomputable def G18 : F2 := .mk (fun call e M nx k => R18_0 call e M nx fun e M nx => R18_1 call e M nx fun e M nx => e.getK q1 fun v => v.onB fun c => Bool.rec (R18_2 call e M nx fun e M nx => k .r e M nx) (R18_3 call e M nx fun e M nx => k .r e M nx) c) [.t q2] [q0]
noncomputable def R19_0 : RegF := fun call e M nx k => VV.onAny (.bool false) (e.setK q8 (.bool false) fun e => k e M nx)
noncomputable def R19_1 : RegF := fun call e M nx k => VV.onAny (.bool true) (e.setK q8 (.bool true) fun e => k e M nx)
noncomputable def R19_2 : RegF := fun call e M nx k => e.getK q2 fun v0 => e.getK q0 fun v1 => VV.onAny v0 (VV.onAny v1 (v_lenS v1 fun v2 => v_min v0 v2 fun v3 => VV.onAny (.i (.ofNat 0)) (e.setK q4 v3 fun e => e.setK q3 (.i (.ofNat 0)) fun e => k e M nx)))
noncomputable def R19_3 : RegF := fun call e M nx k => e.getK q3 fun v0 => e.getK q4 fun v1 => v_lt v0 v1 fun v2 => e.setK q5 v2 fun e => k e M nx
noncomputable def R19_4 : RegF := fun call e M nx k => e.getK q3 fun v0 => VV.onAny v0 (VV.onAny v0 (e.setK q6 v0 fun e => k e M nx))
noncomputable def R19_5 : RegF := fun call e M nx k => e.getK q0 fun v0 => e.getK q1 fun v1 => e.getK q2 fun v2 => e.getK q6 fun v3 => VV.onAny v0 (VV.onAny v1 (VV.onAny v2 (VV.onAny v3 (callV call s29 [v0, v1, v2, v3] M nx fun v4 M nx => VV.onAny v3 (callV call s28 [v4, v3] M nx fun v5 M nx => e.setK q7 v5 fun e => k e M nx)))))
noncomputable def R19_6 : RegF := fun call e M nx k => e.getK q3 fun v0 => v_add v0 (.i (.ofNat 1)) fun v1 => VV.onAny v1 (e.setK q3 v1 fun e => k e M nx)
noncomputable def R19_7 : RegF := fun call e M nx k => VV.onAny (.bool false) (e.setK q8 (.bool false) fun e => k e M nx)
noncomputable def S19 : List (P × I) := [(s0, q0), (s1, q1), (s2, q2), (s12, q3), (s11, q4), (s13, q5), (s7, q6), (s21, q7), (s6, q8)]
noncomputable def G19 : F2 := .mk (fun call e M nx k => R19_0 call e M nx fun e M nx => (fun (j0 : En → Mem → P → Bool) => R19_2 call e M nx fun e M nx => (fun (j1 : En → Mem → P → Bool) => loopK (fun call e M nx k => R19_3 call e M nx fun e M nx => e.getK q5 fun v => v.onB fun c => Bool.rec (k (.x 0) e M nx) (R19_4 call e M nx fun e M nx => R19_5 call e M nx fun e M nx => e.getK q7 fun v => v.onB fun c => Bool.rec (R19_6 call e M nx fun e M nx => k .n e M nx) (R19_7 call e M nx fun e M nx => k .r e M nx) c) c) call e M nx fun ex e M nx => Ex.rec (j1 e M nx) (k .r e M nx) (fun id => Bool.rec (k (.x id) e M nx) (j1 e M nx) (Nat.beq id 0)) ex) fun e M nx => j0 e M nx) fun e M nx => R19_1 call e M nx fun e M nx => k .r e M nx) [.t q8] [q0, q1, q2]
noncomputable def R20_0 : RegF := fun call e M nx k => e.getK q0 fun v0 => bxV 66 v0 M nx fun v1 M nx => VV.onAny (.nils) (e.setK q4 v1 fun e => e.setK q10 (.nils) fun e => k e M nx)
noncomputable def R20_1 : RegF := fun call e M nx k => VV.onAny (.nils) (e.setK q3 (.nils) fun e => k e M nx)
noncomputable def R20_2 : RegF := fun call e M nx k => e.getK q3 fun v0 => VV.onAny v0 (VV.onAny v0 (e.setK q10 v0 fun e => k e M nx))
noncomputable def R20_3 : RegF := fun call e M nx k => e.getK q4 fun v0 => v_fa v0 1 fun v1 => ldV M v1 1 false fun _ v2 => v_lenS v2 fun v3 => VV.onAny (.i (.ofNat 0)) (e.setK q7 v2 fun e => e.setK q5 v3 fun e => e.setK q1 (.i (.ofNat 0)) fun e => k e M nx)
noncomputable def R20_4 : RegF := fun call e M nx k => e.getK q1 fun v0 => e.getK q5 fun v1 => v_lt v0 v1 fun v2 => e.setK q6 v2 fun e => k e M nx
noncomputable def R20_5 : RegF := fun call e M nx k => e.getK q7 fun v0 => e.getK q1 fun v1 => v_ixS v0 v1 21 fun v2 => ldV M v2 21 true fun _ v3 => alV 113 (rep 9 (.i (.ofNat 0)) ++ [(.bool false), (.i (.ofNat 0)), (.i (.ofNat 0)), (.i (.ofNat 0)), (.str []), (.bool false), (.i (.ofNat 0)), (.i (.ofNat 0)), (.i (.ofNat 0)), (.i (.ofNat 0)), (.i (.ofNat 0)), .nils]) M nx fun v4 M nx => stV M v4 v3 21 fun M => e.setK q2 v4 fun e => k e M nx
noncomputable def R20_6 : RegF := fun call e M nx k => VV.onAny (.i (.negSucc 0)) (e.setK q9 (.i (.negSucc 0)) fun e => k e M nx)
noncomputable def R20_7 : RegF := fun call e M nx k => e.getK q3 fun v0 => e.getK q9 fun v1 => VV.onAny v0 (VV.onAny v1 (bslV 3 1 1 [(.i (.ofNat 0))] [(0, 1, v1)] M nx fun v2 M nx => appV 3 1 8 v0 v2 M nx fun v3 M nx => VV.onAny v3 (e.setK q3 v3 fun e => k e M nx)))
noncomputable def R20_8 : RegF := fun call e M nx k => e.getK q1 fun v0 => v_add v0 (.i (.ofNat 1)) fun v1 => VV.onAny v1 (e.setK q1 v1 fun e => k e M nx)
noncomputable def R20_9 : RegF := fun call e M nx k => e.getK q2 fun v0 => v_fa v0 5 fun v1 => ldV M v1 1 false fun _ v2 => v_eq v2 (.i (.ofNat 2)) fun v3 => e.setK q8 v3 fun e => k e M nx
noncomputable def R20_10 : RegF := fun call e M nx k => e.getK q2 fun v0 => v_fa v0 6 fun v1 => ldV M v1 1 false fun _ v2 => VV.onAny v2 (e.setK q9 v2 fun e => k e M nx)
noncomputable def S20 : List (P × I) := [(s0, q0), (s10, q1), (s5, q2), (s3, q3), (s1, q4), (s9, q5), (s11, q6), (s8, q7), (s16, q8), (s6, q9), (s2, q10)]
noncomputable def G20 : F2 := .mk (fun call e M nx k => R20_0 call e M nx fun e M nx => R20_1 call e M nx fun e M nx => (fun (j0 : En → Mem → P → Bool) => R20_3 call e M nx fun e M nx => (fun (j1 : En → Mem → P → Bool) => loopK (fun call e M nx k => R20_4 call e M nx fun e M nx => e.getK q6 fun v => v.onB fun c => Bool.rec (k (.x 0) e M nx) (R20_5 call e M nx fun e M nx => R20_6 call e M nx fun e M nx => (fun (j2 : En → Mem → P → Bool) => R20_9 call e M nx fun e M nx => (fun (j3 : En → Mem → P → Bool) => e.getK q8 fun v => v.onB fun c => Bool.rec (j3 e M nx) (R20_10 call e M nx fun e M nx => j3 e M nx) c) fun e M nx => j2 e M nx) fun e M nx => R20_7 call e M nx fun e M nx => R20_8 call e M nx fun e M nx => k .n e M nx) c) call e M nx fun ex e M nx => Ex.rec (j1 e M nx) (k .r e M nx) (fun id => Bool.rec (k (.x id) e M nx) (j1 e M nx) (Nat.beq id 0)) ex) fun e M nx => j0 e M nx) fun e M nx => R20_2 call e M nx fun e M nx => k .r e M nx) [.t q10] [q0]
noncomputable def R21_0 : RegF := fun call e M nx k => e.getK q0 fun v0 => bxV 28 v0 M nx fun v1 M nx => VV.onAny (.nil) (VV.onAny (.i (.ofNat 0)) (e.setK q2 v1 fun e => e.setK q26 (.nil) fun e => e.setK q27 (.i (.ofNat 0)) fun e => k e M nx))
noncomputable def R21_1 : RegF := fun call e M nx k => e.getK q2 fun v0 => ldV M v0 6 true fun _ v1 => callV call s30 [v1] M nx fun v2 M nx => v_not v2 fun v3 => e.setK q8 v3 fun e => k e M nx
noncomputable def R21_2 : RegF := fun call e M nx k => v_bld ([.nils, (.i (.ofNat 0)), .nils, .nils, .nil, .nil, .nil, .nil, .nils, .nil, .nil, .nils, .nils, (.i (.ofNat 0)), .nils, .nils, .nils, .nils, (.i (.ofNat 0)), (.i (.ofNat 0)), (.i (.ofNat 0)), (.bool false)] ++ rep 8 (.i (.ofNat 0))) [] fun v0 => bxV 101 v0 M nx fun v1 M nx => VV.onAny v1 (e.setK q1 v1 fun e => k e M nx)
noncomputable def R21_3 : RegF := fun call e M nx k => e.getK q1 fun v0 => e.getK q2 fun v1 => VV.onAny v0 (v_fa v1 2 fun v2 => ldV M v2 1 false fun _ v3 => callV call s36 [v3] M nx fun v4 M nx => VV.onAny v4 (v_ext v4 0 fun v5 => v_ext v4 1 fun v6 => v_nck v0 fun v7 => v_fa v7 4 fun v8 => stV M v8 v5 1 fun M => k e M nx))
noncomputable def R21_4 : RegF := fun call e M nx k => e.getK q1 fun v0 => VV.onAny v0 (VV.onAny v0 (v_nck v0 fun v1 => v_fa v1 4 fun v2 => ldV M v2 1 false fun _ v3 => callV call s37 [v3] M nx fun v4 M nx => v_nck v0 fun v5 => v_fa v5 5 fun v6 => stV M v6 v4 1 fun M => k e M nx))
noncomputable def R21_5 : RegF := fun call e M nx k => e.getK q1 fun v0 => VV.onAny v0 (callV call s38 [(.i (.ofNat 4))] M nx fun v1 M nx => VV.onAny v1 (v_ext v1 0 fun v2 => v_ext v1 1 fun v3 => v_nck v0 fun v4 => v_fa v4 6 fun v5 => stV M v5 v2 1 fun M => k e M nx))
noncomputable def R21_6 : RegF := fun call e M nx k => e.getK q1 fun v0 => VV.onAny v0 (callV call s39 [(.i (.ofNat 0))] M nx fun v1 M nx => VV.onAny v1 (v_ext v1 0 fun v2 => v_ext v1 1 fun v3 => v_nck v0 fun v4 => v_fa v4 7 fun v5 => stV M v5 v2 1 fun M => k e M nx))
noncomputable def R21_7 : RegF := fun call e M nx k => e.getK q1 fun v0 => e.getK q2 fun v1 => VV.onAny v0 (v_fa v1 5 fun v2 => ldV M v2 1 false fun _ v3 => callV call s41 [v3] M nx fun v4 M nx => VV.onAny v4 (v_ext v4 0 fun v5 => v_ext v4 1 fun v6 => v_nck v0 fun v7 => v_fa v7 9 fun v8 => stV M v8 v5 1 fun M => k e M nx))
noncomputable def R21_8 : RegF := fun call e M nx k => e.getK q1 fun v0 => e.getK q2 fun v1 => VV.onAny v0 (v_fa v1 4 fun v2 => ldV M v2 1 false fun _ v3 => callV call s42 [v3] M nx fun v4 M nx => VV.onAny v4 (v_ext v4 0 fun v5 => v_ext v4 1 fun v6 => v_nck v0 fun v7 => v_fa v7 10 fun v8 => stV M v8 v5 1 fun M => k e M nx))
noncomputable def R21_9 : RegF := fun call e M nx k => e.getK q1 fun v0 => VV.onAny v0 (VV.onAny v0 (VV.onAny (.i (.ofNat 0)) (e.setK q26 v0 fun e => e.setK q27 (.i (.ofNat 0)) fun e => k e M nx)))
noncomputable def R21_10 : RegF := fun call e M nx k => e.getK q1 fun v0 => VV.onAny v0 (v_nck v0 fun v1 => v_fa v1 2 fun v2 => ldV M v2 1 false fun _ v3 => v_lenS v3 fun v4 => VV.onAny (.i (.ofNat 0)) (e.setK q23 v4 fun e => e.setK q7 (.i (.ofNat 0)) fun e => k e M nx))
noncomputable def R21_11 : RegF := fun call e M nx k => e.getK q7 fun v0 => e.getK q23 fun v1 => v_lt v0 v1 fun v2 => e.setK q24 v2 fun e => k e M nx
noncomputable def R21_12 : RegF := fun call e M nx k => e.getK q7 fun v0 => VV.onAny v0 (VV.onAny v0 (e.setK q25 v0 fun e => k e M nx))
noncomputable def R21_13 : RegF := fun call e M nx k => e.getK q1 fun v0 => e.getK q25 fun v1 => VV.onAny v0 (v_nck v0 fun v2 => v_fa v2 10 fun v3 => ldV M v3 1 false fun _ v4 => VV.onAny v1 (callV call s43 [v4, v1] M nx fun v5 M nx => k e M nx))
noncomputable def R21_14 : RegF := fun call e M nx k => e.getK q7 fun v0 => v_add v0 (.i (.ofNat 1)) fun v1 => VV.onAny v1 (e.setK q7 v1 fun e => k e M nx)
noncomputable def R21_15 : RegF := fun call e M nx k => e.getK q2 fun v0 => v_fa v0 3 fun v1 => ldV M v1 1 false fun _ v2 => v_lenS v2 fun v3 => VV.onAny (.i (.ofNat 0)) (e.setK q20 v2 fun e => e.setK q18 v3 fun e => e.setK q6 (.i (.ofNat 0)) fun e => k e M nx)
noncomputable def R21_16 : RegF := fun call e M nx k => e.getK q6 fun v0 => e.getK q18 fun v1 => v_lt v0 v1 fun v2 => e.setK q19 v2 fun e => k e M nx
noncomputable def R21_17 : RegF := fun call e M nx k => e.getK q20 fun v0 => e.getK q6 fun v1 => v_ixS v0 v1 1 fun v2 => ldV M v2 1 false fun _ v3 => VV.onAny v3 (e.setK q21 v3 fun e => k e M nx)
noncomputable def R21_18 : RegF := fun call e M nx k => e.getK q21 fun v0 => VV.onAny v0 (callV call s40 [v0] M nx fun v1 M nx => VV.onAny v1 (v_ext v1 0 fun v2 => v_ext v1 1 fun v3 => VV.onAny v2 (VV.onAny v3 (e.setK q22 v2 fun e => k e M nx))))
noncomputable def R21_19 : RegF := fun call e M nx k => e.getK q1 fun v0 => e.getK q22 fun v1 => VV.onAny v0 (VV.onAny v0 (v_nck v0 fun v2 => v_fa v2 8 fun v3 => ldV M v3 1 false fun _ v4 => VV.onAny v1 (bslV 127 1 1 [.nil] [(0, 1, v1)] M nx fun v5 M nx => appV 127 1 8 v4 v5 M nx fun v6 M nx => v_nck v0 fun v7 => v_fa v7 8 fun v8 => stV M v8 v6 1 fun M => k e M nx)))
noncomputable def R21_20 : RegF := fun call e M nx k => e.getK q6 fun v0 => v_add v0 (.i (.ofNat 1)) fun v1 => VV.onAny v1 (e.setK q6 v1 fun e => k e M nx)
noncomputable def R21_21 : RegF := fun call e M nx k => e.getK q2 fun v0 => v_fa v0 1 fun v1 => ldV M v1 1 false fun _ v2 => v_lenS v2 fun v3 => VV.onAny (.i (.ofNat 0)) (e.setK q15 v2 fun e => e.setK q13 v3 fun e => e.setK q5 (.i (.ofNat 0)) fun e => k e M nx)
noncomputable def R21_22 : RegF := fun call e M nx k => e.getK q5 fun v0 => e.getK q13 fun v1 => v_lt v0 v1 fun v2 => e.setK q14 v2 fun e => k e M nx
noncomputable def R21_23 : RegF := fun call e M nx k => e.getK q5 fun v0 => e.getK q15 fun v1 => VV.onAny v0 (v_ixS v1 v0 2 fun v2 => ldV M v2 2 true fun _ v3 => alV 79 [(.i (.ofNat 0)), .nils] M nx fun v4 M nx => VV.onAny v0 (stV M v4 v3 2 fun M => e.setK q17 v4 fun e => e.setK q16 v0 fun e => k e M nx))
noncomputable def R21_24 : RegF := fun call e M nx k => e.getK q1 fun v0 => e.getK q2 fun v1 => e.getK q16 fun v2 => e.getK q17 fun v3 => (fun M0 => VV.onAny v0 (v_fa v1 0 fun v4 => ldV M v4 1 false fun _ v5 => v_lenS v5 fun v6 => VV.onAny v2 (v_add v6 v2 fun v7 => ldV M v3 2 true fun _ v8 => callV call s35 [v7, v8] M nx fun v9 M nx => v_fa v3 1 fun v10 => ldV M v10 1 false fun bv11 v11 => callV call s34 [v11] M nx fun v12 M nx => callV call s32 [v0, v9, v12] M nx fun v13 M nx => Bool.rec false (k e M nx) (keptB M0 M (bv11 :: []))))) M
noncomputable def R21_25 : RegF := fun call e M nx k => e.getK q5 fun v0 => v_add v0 (.i (.ofNat 1)) fun v1 => VV.onAny v1 (e.setK q5 v1 fun e => k e M nx)
noncomputable def R21_26 : RegF := fun call e M nx k => e.getK q2 fun v0 => v_fa v0 0 fun v1 => ldV M v1 1 false fun _ v2 => v_lenS v2 fun v3 => VV.onAny (.i (.ofNat 0)) (e.setK q11 v2 fun e => e.setK q9 v3 fun e => e.setK q3 (.i (.ofNat 0)) fun e => k e M nx)
noncomputable def R21_27 : RegF := fun call e M nx k => e.getK q3 fun v0 => e.getK q9 fun v1 => v_lt v0 v1 fun v2 => e.setK q10 v2 fun e => k e M nx
noncomputable def R21_28 : RegF := fun call e M nx k => e.getK q3 fun v0 => e.getK q11 fun v1 => VV.onAny v0 (v_ixS v1 v0 8 fun v2 => ldV M v2 8 true fun _ v3 => alV 32 [(.i (.ofNat 0)), (.i (.ofNat 0)), (.i (.ofNat 0)), (.i (.ofNat 0)), (.i (.ofNat 0)), (.i (.ofNat 0)), .nils, .nils] M nx fun v4 M nx => VV.onAny v0 (stV M v4 v3 8 fun M => e.setK q4 v4 fun e => e.setK q12 v0 fun e => k e M nx))
noncomputable def R21_29 : RegF := fun call e M nx k => e.getK q4 fun v0 => v_fa v0 6 fun v1 => ldV M v1 1 false fun _ v2 => callV call s31 [v2] M nx fun v3 M nx => v_fa v0 6 fun v4 => stV M v4 v3 1 fun M => k e M nx
noncomputable def R21_30 : RegF := fun call e M nx k => e.getK q1 fun v0 => e.getK q4 fun v1 => (fun M0 => VV.onAny v0 (VV.onAny v0 (v_nck v0 fun v2 => v_fa v2 0 fun v3 => ldV M v3 1 false fun _ v4 => ldV M v1 8 true fun _ v5 => bslV 32 8 1 [(.i (.ofNat 0)), (.i (.ofNat 0)), (.i (.ofNat 0)), (.i (.ofNat 0)), (.i (.ofNat 0)), (.i (.ofNat 0)), .nils, .nils] [(0, 8, v5)] M nx fun v6 M nx => appV 32 8 96 v4 v6 M nx fun v7 M nx => v_nck v0 fun v8 => v_fa v8 0 fun v9 => Bool.rec false (stV M v9 v7 1 fun M => k e M nx) (keptB M0 M [])))) M
noncomputable def R21_31 : RegF := fun call e M nx k => e.getK q1 fun v0 => e.getK q12 fun v1 => e.getK q4 fun v2 => (fun M0 => VV.onAny v0 (VV.onAny v1 (ldV M v2 8 true fun _ v3 => callV call s33 [v1, v3] M nx fun v4 M nx => v_fa v2 7 fun v5 => ldV M v5 1 false fun bv6 v6 => callV call s34 [v6] M nx fun v7 M nx => callV call s32 [v0, v4, v7] M nx fun v8 M nx => Bool.rec false (k e M nx) (keptB M0 M (bv6 :: []))))) M
noncomputable def R21_32 : RegF := fun call e M nx k => e.getK q3 fun v0 => v_add v0 (.i (.ofNat 1)) fun v1 => VV.onAny v1 (e.setK q3 v1 fun e => k e M nx)
noncomputable def R21_33 : RegF := fun call e M nx k => VV.onAny (.nil) (VV.onAny (.i (.ofNat 2)) (e.setK q26 (.nil) fun e => e.setK q27 (.i (.ofNat 2)) fun e => k e M nx))
noncomputable def S21 : List (P × I) := [(s0, q0), (s4, q1), (s1, q2), (s22, q3), (s6, q4), (s53, q5), (s105, q6), (s148, q7), (s16, q8), (s21, q9), (s23, q10), (s20, q11), (s5, q12), (s52, q13), (s54, q14), (s51, q15), (s7, q16), (s8, q17), (s104, q18), (s106, q19), (s103, q20), (s10, q21), (s11, q22), (s147, q23), (s149, q24), (s13, q25), (s2, q26), (s3, q27)]
noncomputable def G21 : F2 := .mk (fun call e M nx k => R21_0 call e M nx fun e M nx => R21_1 call e M nx fun e M nx => e.getK q8 fun v => v.onB fun c => Bool.rec (R21_2 call e M nx fun e M nx => (fun (j0 : En → Mem → P → Bool) => R21_26 call e M nx fun e M nx => (fun (j7 : En → Mem → P → Bool) => loopK (fun call e M nx k => R21_27 call e M nx fun e M nx => e.getK q10 fun v => v.onB fun c => Bool.rec (k (.x 0) e M nx) (R21_28 call e M nx fun e M nx => R21_29 call e M nx fun e M nx => R21_30 call e M nx fun e M nx => R21_31 call e M nx fun e M nx => R21_32 call e M nx fun e M nx => k .n e M nx) c) call e M nx fun ex e M nx => Ex.rec (j7 e M nx) (k .r e M nx) (fun id => Bool.rec (k (.x id) e M nx) (j7 e M nx) (Nat.beq id 0)) ex) fun e M nx => j0 e M nx) fun e M nx => (fun (j1 : En → Mem → P → Bool) => R21_21 call e M nx fun e M nx => (fun (j6 : En → Mem → P → Bool) => loopK (fun call e M nx k => R21_22 call e M nx fun e M nx => e.getK q14 fun v => v.onB fun c => Bool.rec (k (.x 2) e M nx) (R21_23 call e M nx fun e M nx => R21_24 call e M nx fun e M nx => R21_25 call e M nx fun e M nx => k .n e M nx) c) call e M nx fun ex e M nx => Ex.rec (j6 e M nx) (k .r e M nx) (fun id => Bool.rec (k (.x id) e M nx) (j6 e M nx) (Nat.beq id 2)) ex) fun e M nx => j1 e M nx) fun e M nx => R21_3 call e M nx fun e M nx => R21_4 call e M nx fun e M nx => R21_5 call e M nx fun e M nx => R21_6 call e M nx fun e M nx => (fun (j2 : En → Mem → P → Bool) => R21_15 call e M nx fun e M nx => (fun (j5 : En → Mem → P → Bool) => loopK (fun call e M nx k => R21_16 call e M nx fun e M nx => e.getK q19 fun v => v.onB fun c => Bool.rec (k (.x 4) e M nx) (R21_17 call e M nx fun e M nx => R21_18 call e M nx fun e M nx => R21_19 call e M nx fun e M nx => R21_20 call e M nx fun e M nx => k .n e M nx) c) call e M nx fun ex e M nx => Ex.rec (j5 e M nx) (k .r e M nx) (fun id => Bool.rec (k (.x id) e M nx) (j5 e M nx) (Nat.beq id 4)) ex) fun e M nx => j2 e M nx) fun e M nx => R21_7 call e M nx fun e M nx => R21_8 call e M nx fun e M nx => (fun (j3 : En → Mem → P → Bool) => R21_10 call e M nx fun e M nx => (fun (j4 : En → Mem → P → Bool) => loopK (fun call e M nx k => R21_11 call e M nx fun e M nx => e.getK q24 fun v => v.onB fun c => Bool.rec (k (.x 6) e M nx) (R21_12 call e M nx fun e M nx => R21_13 call e M nx fun e M nx => R21_14 call e M nx fun e M nx => k .n e M nx) c) call e M nx fun ex e M nx => Ex.rec (j4 e M nx) (k .r e M nx) (fun id => Bool.rec (k (.x id) e M nx) (j4 e M nx) (Nat.beq id 6)) ex) fun e M nx => j3 e M nx) fun e M nx => R21_9 call e M nx fun e M nx => k .r e M nx) (R21_33 call e M nx fun e M nx => k .r e M nx) c) [.t q26, .t q27] [q0]
noncomputable def R22_0 : RegF := fun call e M nx k => VV.onAny (.i (.ofNat 0)) (e.setK q2 (.i (.ofNat 0)) fun e => k e M nx)
noncomputable def R22_1 : RegF := fun call e M nx k => e.getK q0 fun v0 => VV.onAny v0 (v_nqP false v0 fun v1 => e.setK q1 v1 fun e => k e M nx)
noncomputable def R22_2 : RegF := fun call e M nx k => e.getK q0 fun v0 => VV.onAny v0 (v_nck v0 fun v1 => v_fa v1 1 fun v2 => ldV M v2 1 false fun _ v3 => VV.onAny v3 (e.setK q2 v3 fun e => k e M nx))
noncomputable def R22_3 : RegF := fun call e M nx k => VV.onAny (.i (.ofNat 0)) (e.setK q2 (.i (.ofNat 0)) fun e => k e M nx)
noncomputable def S22 : List (P × I) := [(s0, q0), (s4, q1), (s2, q2)]
noncomputable def G22 : F2 := .mk (fun call e M nx k => R22_0 call e M nx fun e M nx => R22_1 call e M nx fun e M nx => e.getK q1 fun v => v.onB fun c => Bool.rec (R22_2 call e M nx fun e M nx => k .r e M nx) (R22_3 call e M nx fun e M nx => k .r e M nx) c) [.t q2] [q0]
noncomputable def R23_0 : RegF := fun call e M nx k => alV 60 [(.i (.ofNat 0)), (.bool false)] M nx fun v0 M nx => e.setK q2 v0 fun e => k e M nx
noncomputable def R23_1 : RegF := fun call e M nx k => e.getK q0 fun v0 => VV.onAny v0 (v_nqP false v0 fun v1 => VV.onAny v1 (gdK v1 false .off M nx (fun j => v_mv v0 fun v => j v M nx) fun v2 M nx => gdK v1 false .off M nx (fun j => v_nck v2 fun v => j v M nx) fun v3 M nx => gdK v1 false .off M nx (fun j => v_fa v3 1 fun v => j v M nx) fun v4 M nx => gdK v1 false .off M nx (fun j => ldV M v4 1 false fun _ v => j v M nx) fun v5 M nx => gdK v1 false .off M nx (fun j => v_eq v5 (.i (.ofNat 16777215)) fun v => j v M nx) fun v6 M nx => v_pick v1 (.bool true) v6 fun v7 => e.setK q6 v7 fun e => k e M nx))
noncomputable def R23_2 : RegF := fun call e M nx k => e.getK q0 fun v0 => VV.onAny v0 (v_nck v0 fun v1 => v_fa v1 21 fun v2 => stV M v2 (.bool false) 1 fun M => k e M nx)
noncomputable def R23_3 : RegF := fun call e M nx k => e.getK q0 fun v0 => VV.onAny v0 (callV call s48 [v0] M nx fun v1 M nx => alV 60 [(.i (.ofNat 0)), (.bool false)] M nx fun v2 M nx => stV M v2 v1 2 fun M => e.setK q23 v2 fun e => k e M nx)
noncomputable def R23_4 : RegF := fun call e M nx k => e.getK q0 fun v0 => (fun M0 => VV.onAny v0 (v_nck v0 fun v1 => v_fa v1 9 fun v2 => ldV M v2 1 false fun _ v3 => VV.onAny v0 (v_nck v0 fun v4 => v_fa v4 1 fun v5 => ldV M v5 1 false fun _ v6 => callV call s52 [v3, v6] M nx fun v7 M nx => Bool.rec false (k e M nx) (keptB M0 M [])))) M
noncomputable def R23_5 : RegF := fun call e M nx k => e.getK q0 fun v0 => VV.onAny v0 (v_nck v0 fun v1 => v_fa v1 1 fun v2 => ldV M v2 1 false fun _ v3 => v_add v3 (.i (.ofNat 1)) fun v4 => v_nck v0 fun v5 => v_fa v5 1 fun v6 => stV M v6 v4 1 fun M => k e M nx)
noncomputable def R23_6 : RegF := fun call e M nx k => e.getK q23 fun v0 => e.getK q2 fun v1 => ldV M v0 2 true fun _ v2 => stV M v1 v2 2 fun M => k e M nx
noncomputable def R23_7 : RegF := fun call e M nx k => e.getK q0 fun v0 => VV.onAny v0 (v_nck v0 fun v1 => v_fa v1 21 fun v2 => ldV M v2 1 false fun _ v3 => VV.onAny v3 (gdK v3 false .off M nx (fun j => v_mv v0 fun v => j v M nx) fun v4 M nx => gdK v3 false .off M nx (fun j => v_nck v4 fun v => j v M nx) fun v5 M nx => gdK v3 false .off M nx (fun j => v_fa v5 2 fun v => j v M nx) fun v6 M nx => gdK v3 false .off M nx (fun j => ldV M v6 1 false fun _ v => j v M nx) fun v7 M nx => gdK v3 false .no M nx (fun j => callV call s49 [v7, (.fn s50 [] [])] M nx fun v M nx => j v M nx) fun v8 M nx => gdK v3 false .off M nx (fun j => v_not v8 fun v => j v M nx) fun v9 M nx => v_pick v3 (.bool true) v9 fun v10 => e.setK q22 v10 fun e => k e M nx))
noncomputable def R23_8 : RegF := fun call e M nx k => e.getK q0 fun v0 => (fun M0 => VV.onAny v0 (v_nck v0 fun v1 => v_fa v1 9 fun v2 => ldV M v2 1 false fun _ v3 => VV.onAny v0 (v_nck v0 fun v4 => v_fa v4 1 fun v5 => ldV M v5 1 false fun _ v6 => callV call s51 [v3, v6] M nx fun v7 M nx => Bool.rec false (k e M nx) (keptB M0 M [])))) M
noncomputable def R23_9 : RegF := fun call e M nx k => e.getK q1 fun v0 => VV.onAny v0 (v_lenS v0 fun v1 => VV.onAny (.i (.ofNat 0)) (e.setK q20 v0 fun e => e.setK q18 v1 fun e => e.setK q5 (.i (.ofNat 0)) fun e => k e M nx))
noncomputable def R23_10 : RegF := fun call e M nx k => e.getK q5 fun v0 => e.getK q18 fun v1 => v_lt v0 v1 fun v2 => e.setK q19 v2 fun e => k e M nx
noncomputable def R23_11 : RegF := fun call e M nx k => e.getK q20 fun v0 => e.getK q5 fun v1 => v_ixS v0 v1 3 fun v2 => ldV M v2 3 true fun _ v3 => alV 41 [(.i (.ofNat 0)), (.i (.ofNat 0)), (.i (.ofNat 0))] M nx fun v4 M nx => stV M v4 v3 3 fun M => e.setK q21 v4 fun e => k e M nx
noncomputable def R23_12 : RegF := fun call e M nx k => e.getK q0 fun v0 => e.getK q21 fun v1 => VV.onAny v0 (ldV M v1 3 true fun _ v2 => callV call s47 [v0, v2] M nx fun v3 M nx => k e M nx)
noncomputable def R23_13 : RegF := fun call e M nx k => e.getK q5 fun v0 => v_add v0 (.i (.ofNat 1)) fun v1 => VV.onAny v1 (e.setK q5 v1 fun e => k e M nx)
noncomputable def R23_14 : RegF := fun call e M nx k => e.getK q0 fun v0 => VV.onAny v0 (v_nck v0 fun v1 => v_fa v1 8 fun v2 => ldV M v2 1 false fun _ v3 => v_lenS v3 fun v4 => VV.onAny (.i (.ofNat 0)) (e.setK q16 v3 fun e => e.setK q14 v4 fun e => e.setK q4 (.i (.ofNat 0)) fun e => k e M nx))
noncomputable def R23_15 : RegF := fun call e M nx k => e.getK q4 fun v0 => e.getK q14 fun v1 => v_lt v0 v1 fun v2 => e.setK q15 v2 fun e => k e M nx
noncomputable def R23_16 : RegF := fun call e M nx k => e.getK q16 fun v0 => e.getK q4 fun v1 => v_ixS v0 v1 1 fun v2 => ldV M v2 1 false fun _ v3 => VV.onAny v3 (e.setK q17 v3 fun e => k e M nx)
noncomputable def R23_17 : RegF := fun call e M nx k => e.getK q17 fun v0 => e.getK q0 fun v1 => VV.onAny v0 (VV.onAny v1 (v_nck v1 fun v2 => v_fa v2 1 fun v3 => ldV M v3 1 false fun _ v4 => callV call s46 [v0, v4] M nx fun v5 M nx => k e M nx))
noncomputable def R23_18 : RegF := fun call e M nx k => e.getK q4 fun v0 => v_add v0 (.i (.ofNat 1)) fun v1 => VV.onAny v1 (e.setK q4 v1 fun e => k e M nx)
noncomputable def R23_19 : RegF := fun call e M nx k => e.getK q0 fun v0 => VV.onAny v0 (v_nck v0 fun v1 => v_fa v1 1 fun v2 => ldV M v2 1 false fun _ v3 => v_lt (.i (.ofNat 0)) v3 fun v4 => e.setK q7 v4 fun e => k e M nx)
noncomputable def R23_20 : RegF := fun call e M nx k => e.getK q0 fun v0 => VV.onAny v0 (v_nck v0 fun v1 => v_fa v1 7 fun v2 => ldV M v2 1 false fun _ v3 => callV call s44 [v3] M nx fun v4 M nx => VV.onAny v4 (v_ext v4 0 fun v5 => v_ext v4 1 fun v6 => VV.onAny v5 (VV.onAny v6 (e.setK q8 v5 fun e => k e M nx))))
noncomputable def R23_21 : RegF := fun call e M nx k => e.getK q0 fun v0 => VV.onAny v0 (v_mkf s45 [v0] [] fun v1 => VV.onAny v1 (e.setK q12 v1 fun e => k e M nx))
noncomputable def R23_22 : RegF := fun call e M nx k => e.getK q8 fun v0 => VV.onAny v0 (v_lenS v0 fun v1 => VV.onAny (.i (.ofNat 0)) (e.setK q11 v0 fun e => e.setK q9 v1 fun e => e.setK q3 (.i (.ofNat 0)) fun e => k e M nx))
noncomputable def R23_23 : RegF := fun call e M nx k => e.getK q3 fun v0 => e.getK q9 fun v1 => v_lt v0 v1 fun v2 => e.setK q10 v2 fun e => k e M nx
noncomputable def R23_24 : RegF := fun call e M nx k => e.getK q11 fun v0 => e.getK q3 fun v1 => v_ixS v0 v1 1 fun v2 => ldV M v2 1 false fun _ v3 => VV.onAny v3 (e.setK q13 v3 fun e => k e M nx)
noncomputable def R23_25 : RegF := fun call e M nx k => e.getK q12 fun v0 => e.getK q13 fun v1 => VV.onAny v0 (VV.onAny v1 (cvV call v0 [v1] M nx fun v2 M nx => k e M nx))
noncomputable def R23_26 : RegF := fun call e M nx k => e.getK q3 fun v0 => v_add v0 (.i (.ofNat 1)) fun v1 => VV.onAny v1 (e.setK q3 v1 fun e => k e M nx)
noncomputable def R23_27 : RegF := fun call e M nx k => e.getK q2 fun v0 => v_bld [(.i (.ofNat 0)), (.bool false)] [(0, 1, (.i (.negSucc 0)))] fun v1 => stV M v0 v1 2 fun M => k e M nx
noncomputable def S23 : List (P × I) := [(s0, q0), (s1, q1), (s4, q2), (s45, q3), (s58, q4), (s71, q5), (s23, q6), (s32, q7), (s5, q8), (s44, q9), (s46, q10), (s43, q11), (s7, q12), (s9, q13), (s57, q14), (s59, q15), (s56, q16), (s11, q17), (s70, q18), (s72, q19), (s69, q20), (s13, q21), (s92, q22), (s14, q23)]
noncomputable def G23 : F2 := .mk (fun call e M nx k => R23_0 call e M nx fun e M nx => R23_1 call e M nx fun e M nx => e.getK q6 fun v => v.onB fun c => Bool.rec (R23_2 call e M nx fun e M nx => (fun (j0 : En → Mem → P → Bool) => R23_19 call e M nx fun e M nx => (fun (j7 : En → Mem → P → Bool) => e.getK q7 fun v => v.onB fun c => Bool.rec (j7 e M nx) (R23_20 call e M nx fun e M nx => R23_21 call e M nx fun e M nx => R23_22 call e M nx fun e M nx => (fun (j8 : En → Mem → P → Bool) => loopK (fun call e M nx k => R23_23 call e M nx fun e M nx => e.getK q10 fun v => v.onB fun c => Bool.rec (k (.x 0) e M nx) (R23_24 call e M nx fun e M nx => R23_25 call e M nx fun e M nx => R23_26 call e M nx fun e M nx => k .n e M nx) c) call e M nx fun ex e M nx => Ex.rec (j8 e M nx) (k .r e M nx) (fun id => Bool.rec (k (.x id) e M nx) (j8 e M nx) (Nat.beq id 0)) ex) fun e M nx => j7 e M nx) c) fun e M nx => j0 e M nx) fun e M nx => (fun (j1 : En → Mem → P → Bool) => R23_14 call e M nx fun e M nx => (fun (j6 : En → Mem → P → Bool) => loopK (fun call e M nx k => R23_15 call e M nx fun e M nx => e.getK q15 fun v => v.onB fun c => Bool.rec (k (.x 2) e M nx) (R23_16 call e M nx fun e M nx => R23_17 call e M nx fun e M nx => R23_18 call e M nx fun e M nx => k .n e M nx) c) call e M nx fun ex e M nx => Ex.rec (j6 e M nx) (k .r e M nx) (fun id => Bool.rec (k (.x id) e M nx) (j6 e M nx) (Nat.beq id 2)) ex) fun e M nx => j1 e M nx) fun e M nx => (fun (j2 : En → Mem → P → Bool) => R23_9 call e M nx fun e M nx => (fun (j5 : En → Mem → P → Bool) => loopK (fun call e M nx k => R23_10 call e M nx fun e M nx => e.getK q19 fun v => v.onB fun c => Bool.rec (k (.x 4) e M nx) (R23_11 call e M nx fun e M nx => R23_12 call e M nx fun e M nx => R23_13 call e M nx fun e M nx => k .n e M nx) c) call e M nx fun ex e M nx => Ex.rec (j5 e M nx) (k .r e M nx) (fun id => Bool.rec (k (.x id) e M nx) (j5 e M nx) (Nat.beq id 4)) ex) fun e M nx => j2 e M nx) fun e M nx => R23_3 call e M nx fun e M nx => (fun (j3 : En → Mem → P → Bool) => R23_7 call e M nx fun e M nx => (fun (j4 : En → Mem → P → Bool) => e.getK q22 fun v => v.onB fun c => Bool.rec (j4 e M nx) (R23_8 call e M nx fun e M nx => j4 e M nx) c) fun e M nx => j3 e M nx) fun e M nx => R23_4 call e M nx fun e M nx => R23_5 call e M nx fun e M nx => R23_6 call e M nx fun e M nx => k .r e M nx) (R23_27 call e M nx fun e M nx => k .r e M nx) c) [.c q2 2 true] [q0, q1]
noncomputable def R24_0 : RegF := fun call e M nx k => VV.onAny (.nils) (e.setK q9 (.nils) fun e => k e M nx)
noncomputable def R24_1 : RegF := fun call e M nx k => VV.onAny (.nils) (e.setK q4 (.nils) fun e => k e M nx)
noncomputable def R24_2 : RegF := fun call e M nx k => e.getK q4 fun v0 => VV.onAny v0 (VV.onAny v0 (e.setK q9 v0 fun e => k e M nx))
noncomputable def R24_3 : RegF := fun call e M nx k => e.getK q0 fun v0 => VV.onAny v0 (v_lenS v0 fun v1 => VV.onAny (.i (.ofNat 0)) (e.setK q7 v0 fun e => e.setK q5 v1 fun e => e.setK q2 (.i (.ofNat 0)) fun e => k e M nx))
noncomputable def R24_4 : RegF := fun call e M nx k => e.getK q2 fun v0 => e.getK q5 fun v1 => v_lt v0 v1 fun v2 => e.setK q6 v2 fun e => k e M nx
noncomputable def R24_5 : RegF := fun call e M nx k => e.getK q2 fun v0 => v_add v0 (.i (.ofNat 1)) fun v1 => VV.onAny v1 (e.setK q2 v1 fun e => k e M nx)
noncomputable def R24_6 : RegF := fun call e M nx k => e.getK q7 fun v0 => e.getK q2 fun v1 => v_ixS v0 v1 3 fun v2 => ldV M v2 3 true fun _ v3 => alV 41 [(.i (.ofNat 0)), (.i (.ofNat 0)), (.i (.ofNat 0))] M nx fun v4 M nx => stV M v4 v3 3 fun M => e.setK q3 v4 fun e => k e M nx
noncomputable def R24_7 : RegF := fun call e M nx k => e.getK q1 fun v0 => e.getK q3 fun v1 => VV.onAny v0 (ldV M v1 3 true fun _ v2 => cvV call v0 [v2] M nx fun v3 M nx => e.setK q8 v3 fun e => k e M nx)
noncomputable def R24_8 : RegF := fun call e M nx k => e.getK q4 fun v0 => e.getK q3 fun v1 => VV.onAny v0 (ldV M v1 3 true fun _ v2 => bslV 41 3 1 [(.i (.ofNat 0)), (.i (.ofNat 0)), (.i (.ofNat 0))] [(0, 3, v2)] M nx fun v3 M nx => appV 41 3 24 v0 v3 M nx fun v4 M nx => VV.onAny v4 (e.setK q4 v4 fun e => k e M nx))
noncomputable def S24 : List (P × I) := [(s0, q0), (s1, q1), (s10, q2), (s7, q3), (s5, q4), (s9, q5), (s11, q6), (s8, q7), (s16, q8), (s4, q9)]
noncomputable def G24 : F2 := .mk (fun call e M nx k => R24_0 call e M nx fun e M nx => R24_1 call e M nx fun e M nx => (fun (j0 : En → Mem → P → Bool) => R24_3 call e M nx fun e M nx => (fun (j1 : En → Mem → P → Bool) => loopK (fun call e M nx k => R24_4 call e M nx fun e M nx => e.getK q6 fun v => v.onB fun c => Bool.rec (k (.x 0) e M nx) ((fun (j2 : En → Mem → P → Bool) => (fun (j3 : En → Mem → P → Bool) => R24_6 call e M nx fun e M nx => R24_7 call e M nx fun e M nx => (fun (j4 : En → Mem → P → Bool) => e.getK q8 fun v => v.onB fun c => Bool.rec (j4 e M nx) (R24_8 call e M nx fun e M nx => j4 e M nx) c) fun e M nx => j3 e M nx) fun e M nx => j2 e M nx) fun e M nx => R24_5 call e M nx fun e M nx => k .n e M nx) c) call e M nx fun ex e M nx => Ex.rec (j1 e M nx) (k .r e M nx) (fun id => Bool.rec (k (.x id) e M nx) (j1 e M nx) (Nat.beq id 0)) ex) fun e M nx => j0 e M nx) fun e M nx => R24_2 call e M nx fun e M nx => k .r e M nx) [.t q9] [q0, q1]
noncomputable def R25_0 : RegF := fun call e M nx k => e.getK q0 fun v0 => bxV 41 v0 M nx fun v1 M nx => VV.onAny (.bool false) (e.setK q2 v1 fun e => e.setK q3 (.bool false) fun e => k e M nx)
noncomputable def R25_1 : RegF := fun call e M nx k => e.getK q2 fun v0 => e.getK q1 fun v1 => v_fa v0 0 fun v2 => ldV M v2 1 false fun _ v3 => ldV M v1 1 false fun _ v4 => v_eq v3 v4 fun v5 => VV.onAny v5 (e.setK q3 v5 fun e => k e M nx)
noncomputable def S25 : List (P × I) := [(s0, q0), (s1, q1), (s2, q2), (s3, q3)]
noncomputable def G25 : F2 := .mk (fun call e M nx k => R25_0 call e M nx fun e M nx => R25_1 call e M nx fun e M nx => k .r e M nx) [.t q3] [q0, q1]
noncomputable def R26_0 : RegF := fun call e M nx k => VV.onAny (.nils) (e.setK q2 (.nils) fun e => k e M nx)
noncomputable def R26_1 : RegF := fun call e M nx k => e.getK q0 fun v0 => VV.onAny v0 (v_nqS false v0 fun v1 => e.setK q1 v1 fun e => k e M nx)
noncomputable def R26_2 : RegF := fun call e M nx k => e.getK q0 fun v0 => bslV 45 6 0 [] [] M nx fun v1 M nx => VV.onAny v0 (appV 45 6 48 v1 v0 M nx fun v2 M nx => VV.onAny v2 (e.setK q2 v2 fun e => k e M nx))
noncomputable def R26_3 : RegF := fun call e M nx k => VV.onAny (.nils) (e.setK q2 (.nils) fun e => k e M nx)
noncomputable def S26 : List (P × I) := [(s0, q0), (s4, q1), (s2, q2)]
noncomputable def G26 : F2 := .mk (fun call e M nx k => R26_0 call e M nx fun e M nx => R26_1 call e M nx fun e M nx => e.getK q1 fun v => v.onB fun c => Bool.rec (R26_2 call e M nx fun e M nx => k .r e M nx) (R26_3 call e M nx fun e M nx => k .r e M nx) c) [.t q2] [q0]
noncomputable def R27_0 : RegF := fun call e M nx k => VV.onAny (.nils) (e.setK q2 (.nils) fun e => k e M nx)
noncomputable def R27_1 : RegF := fun call e M nx k => e.getK q0 fun v0 => VV.onAny v0 (v_nqS false v0 fun v1 => e.setK q1 v1 fun e => k e M nx)
noncomputable def R27_2 : RegF := fun call e M nx k => e.getK q0 fun v0 => bslV 106 11 0 [] [] M nx fun v1 M nx => VV.onAny v0 (appV 106 11 112 v1 v0 M nx fun v2 M nx => VV.onAny v2 (e.setK q2 v2 fun e => k e M nx))
noncomputable def R27_3 : RegF := fun call e M nx k => VV.onAny (.nils) (e.setK q2 (.nils) fun e => k e M nx)
noncomputable def S27 : List (P × I) := [(s0, q0), (s4, q1), (s2, q2)]
noncomputable def G27 : F2 := .mk (fun call e M nx k => R27_0 call e M nx fun e M nx => R27_1 call e M nx fun e M nx => e.getK q1 fun v => v.onB fun c => Bool.rec (R27_2 call e M nx fun e M nx => k .r e M nx) (R27_3 call e M nx fun e M nx => k .r e M nx) c) [.t q2] [q0]
noncomputable def R28_0 : RegF := fun call e M nx k => VV.onAny (.bool false) (e.setK q2 (.bool false) fun e => k e M nx)
noncomputable def R28_1 : RegF := fun call e M nx k => e.getK q0 fun v0 => e.getK q1 fun v1 => VV.onAny v0 (VV.onAny v1 (callV call s53 [v0, v1] M nx fun v2 M nx => v_le (.i (.ofNat 0)) v2 fun v3 => VV.onAny v3 (e.setK q2 v3 fun e => k e M nx)))
noncomputable def S28 : List (P × I) := [(s0, q0), (s1, q1), (s4, q2)]
noncomputable def G28 : F2 := .mk (fun call e M nx k => R28_0 call e M nx fun e M nx => R28_1 call e M nx fun e M nx => k .r e M nx) [.t q2] [q0, q1]
noncomputable def R30_0 : RegF := fun call e M nx k => e.getK q0 fun v0 => bxV 28 v0 M nx fun v1 M nx => VV.onAny (.bool false) (e.setK q1 v1 fun e => e.setK q18 (.bool false) fun e => k e M nx)
noncomputable def R30_1 : RegF := fun call e M nx k => e.getK q1 fun v0 => v_fa v0 0 fun v1 => ldV M v1 1 false fun _ v2 => v_lenS v2 fun v3 => v_lt (.i (.ofNat 8)) v3 fun v4 => VV.onAny v4 (gdK v4 false .off M nx (fun j => v_fa v0 1 fun v => j v M nx) fun v5 M nx => gdK v4 false .off M nx (fun j => ldV M v5 1 false fun _ v => j v M nx) fun v6 M nx => gdK v4 false .off M nx (fun j => v_lenS v6 fun v => j v M nx) fun v7 M nx => gdK v4 false .off M nx (fun j => v_lt (.i (.ofNat 6)) v7 fun v => j v M nx) fun v8 M nx => v_pick v4 (.bool true) v8 fun v9 => VV.onAny v9 (gdK v9 false .off M nx (fun j => v_fa v0 3 fun v => j v M nx) fun v10 M nx => gdK v9 false .off M nx (fun j => ldV M v10 1 false fun _ v => j v M nx) fun v11 M nx => gdK v9 false .off M nx (fun j => v_lenS v11 fun v => j v M nx) fun v12 M nx => gdK v9 false .off M nx (fun j => v_lt (.i (.ofNat 4)) v12 fun v => j v M nx) fun v13 M nx => v_pick v9 (.bool true) v13 fun v14 => VV.onAny v14 (gdK v14 false .off M nx (fun j => v_fa v0 4 fun v => j v M nx) fun v15 M nx => gdK v14 false .off M nx (fun j => ldV M v15 1 false fun _ v => j v M nx) fun v16 M nx => gdK v14 false .no M nx (fun j => callV call s56 [v16, (.i (.ofNat 8)), (.i (.ofNat 64))] M nx fun v M nx => j v M nx) fun v17 M nx => gdK v14 false .off M nx (fun j => v_not v17 fun v => j v M nx) fun v18 M nx => v_pick v14 (.bool true) v18 fun v19 => VV.onAny v19 (gdK v19 false .off M nx (fun j => v_fa v0 5 fun v => j v M nx) fun v20 M nx => gdK v19 false .off M nx (fun j => ldV M v20 1 false fun _ v => j v M nx) fun v21 M nx => gdK v19 false .no M nx (fun j => callV call s56 [v21, (.i (.ofNat 1)), (.i (.ofNat 1099511627776))] M nx fun v M nx => j v M nx) fun v22 M nx => gdK v19 false .off M nx (fun j => v_not v22 fun v => j v M nx) fun v23 M nx => v_pick v19 (.bool true) v23 fun v24 => e.setK q6 v24 fun e => k e M nx))))
noncomputable def R30_2 : RegF := fun call e M nx k => VV.onAny (.bool false) (e.setK q18 (.bool false) fun e => k e M nx)
noncomputable def R30_3 : RegF := fun call e M nx k => e.getK q1 fun v0 => v_fa v0 2 fun v1 => ldV M v1 1 false fun _ v2 => callV call s36 [v2] M nx fun v3 M nx => VV.onAny v3 (v_ext v3 0 fun v4 => v_ext v3 1 fun v5 => VV.onAny v4 (VV.onAny v5 (e.setK q7 v5 fun e => k e M nx)))
noncomputable def R30_4 : RegF := fun call e M nx k => e.getK q7 fun v0 => VV.onAny v0 (v_ne v0 (.i (.ofNat 0)) fun v1 => e.setK q8 v1 fun e => k e M nx)
noncomputable def R30_5 : RegF := fun call e M nx k => VV.onAny (.bool false) (e.setK q18 (.bool false) fun e => k e M nx)
noncomputable def R30_6 : RegF := fun call e M nx k => mkmV M nx fun v0 M nx => VV.onAny v0 (e.setK q5 v0 fun e => k e M nx)
noncomputable def R30_7 : RegF := fun call e M nx k => e.getK q1 fun v0 => v_fa v0 0 fun v1 => ldV M v1 1 false fun _ v2 => v_lenS v2 fun v3 => VV.onAny (.i (.ofNat 0)) (e.setK q11 v2 fun e => e.setK q9 v3 fun e => e.setK q2 (.i (.ofNat 0)) fun e => k e M nx)
noncomputable def R30_8 : RegF := fun call e M nx k => e.getK q2 fun v0 => e.getK q9 fun v1 => v_lt v0 v1 fun v2 => e.setK q10 v2 fun e => k e M nx
noncomputable def R30_9 : RegF := fun call e M nx k => e.getK q11 fun v0 => e.getK q2 fun v1 => v_ixS v0 v1 8 fun v2 => ldV M v2 8 true fun _ v3 => alV 32 [(.i (.ofNat 0)), (.i (.ofNat 0)), (.i (.ofNat 0)), (.i (.ofNat 0)), (.i (.ofNat 0)), (.i (.ofNat 0)), .nils, .nils] M nx fun v4 M nx => stV M v4 v3 8 fun M => e.setK q4 v4 fun e => k e M nx
noncomputable def R30_10 : RegF := fun call e M nx k => e.getK q1 fun v0 => e.getK q4 fun v1 => e.getK q5 fun v2 => ldV M v0 6 true fun _ v3 => ldV M v1 8 true fun _ v4 => callV call s57 [v3, v4] M nx fun v5 M nx => v_not v5 fun v6 => VV.onAny v6 (gdK v6 false .off M nx (fun j => v_fa v1 5 fun v => j v M nx) fun v7 M nx => gdK v6 false .off M nx (fun j => ldV M v7 1 false fun _ v => j v M nx) fun v8 M nx => gdK v6 false .off M nx (fun j => v_le (.i (.ofNat 0)) v8 fun v => j v M nx) fun v9 M nx => gdK v6 false .off M nx (fun j => v_mv v9 fun v => j v M nx) fun v10 M nx => gdK v10 true .off M nx (fun j => v_mv v2 fun v => j v M nx) fun v11 M nx => gdK v10 true .off M nx (fun j => v_fa v1 5 fun v => j v M nx) fun v12 M nx => gdK v10 true .off M nx (fun j => ldV M v12 1 false fun _ v => j v M nx) fun v13 M nx => gdK v10 true .no M nx (fun j => lkuV (.i (.ofNat 0)) false v11 v13 M fun v => j v M nx) fun v14 M nx => gdK v10 true .off M nx (fun j => v_lt (.i (.ofNat 0)) v14 fun v => j v M nx) fun v15 M nx => gdK v6 false .off M nx (fun j => v_pick v10 v15 (.bool false) fun v => j v M nx) fun v16 M nx => v_pick v6 (.bool true) v16 fun v17 => e.setK q12 v17 fun e => k e M nx)
noncomputable def R30_11 : RegF := fun call e M nx k => VV.onAny (.bool false) (e.setK q18 (.bool false) fun e => k e M nx)
noncomputable def R30_12 : RegF := fun call e M nx k => e.getK q5 fun v0 => e.getK q4 fun v1 => VV.onAny v0 (v_fa v1 5 fun v2 => ldV M v2 1 false fun _ v3 => lkuV (.i (.ofNat 0)) false v0 v3 M fun v4 => v_add v4 (.i (.ofNat 1)) fun v5 => mupV v0 v3 v5 M fun M => k e M nx)
noncomputable def R30_13 : RegF := fun call e M nx k => e.getK q2 fun v0 => v_add v0 (.i (.ofNat 1)) fun v1 => VV.onAny v1 (e.setK q2 v1 fun e => k e M nx)
noncomputable def R30_14 : RegF := fun call e M nx k => e.getK q1 fun v0 => v_fa v0 1 fun v1 => ldV M v1 1 false fun _ v2 => v_lenS v2 fun v3 => VV.onAny (.i (.ofNat 0)) (e.setK q15 v2 fun e => e.setK q13 v3 fun e => e.setK q3 (.i (.ofNat 0)) fun e => k e M nx)
noncomputable def R30_15 : RegF := fun call e M nx k => e.getK q3 fun v0 => e.getK q13 fun v1 => v_lt v0 v1 fun v2 => e.setK q14 v2 fun e => k e M nx
noncomputable def R30_16 : RegF := fun call e M nx k => e.getK q15 fun v0 => e.getK q3 fun v1 => v_ixS v0 v1 2 fun v2 => ldV M v2 2 true fun _ v3 => alV 79 [(.i (.ofNat 0)), .nils] M nx fun v4 M nx => stV M v4 v3 2 fun M => e.setK q16 v4 fun e => k e M nx
noncomputable def R30_17 : RegF := fun call e M nx k => e.getK q16 fun v0 => v_fa v0 0 fun v1 => ldV M v1 1 false fun _ v2 => callV call s56 [v2, (.i (.ofNat 0)), (.i (.ofNat 15))] M nx fun v3 M nx => v_not v3 fun v4 => VV.onAny v4 (gdK v4 false .off M nx (fun j => v_fa v0 1 fun v => j v M nx) fun v5 M nx => gdK v4 false .off M nx (fun j => ldV M v5 1 false fun _ v => j v M nx) fun v6 M nx => gdK v4 false .off M nx (fun j => v_lenS v6 fun v => j v M nx) fun v7 M nx => gdK v4 false .off M nx (fun j => v_lt (.i (.ofNat 40)) v7 fun v => j v M nx) fun v8 M nx => v_pick v4 (.bool true) v8 fun v9 => e.setK q17 v9 fun e => k e M nx)
noncomputable def R30_18 : RegF := fun call e M nx k => VV.onAny (.bool false) (e.setK q18 (.bool false) fun e => k e M nx)
noncomputable def R30_19 : RegF := fun call e M nx k => e.getK q3 fun v0 => v_add v0 (.i (.ofNat 1)) fun v1 => VV.onAny v1 (e.setK q3 v1 fun e => k e M nx)
noncomputable def R30_20 : RegF := fun call e M nx k => e.getK q1 fun v0 => v_fa v0 3 fun v1 => ldV M v1 1 false fun _ v2 => callV call s58 [v2, (.fn s59 [] [])] M nx fun v3 M nx => v_not v3 fun v4 => VV.onAny v4 (e.setK q18 v4 fun e => k e M nx)
noncomputable def S30 : List (P × I) := [(s0, q0), (s1, q1), (s50, q2), (s79, q3), (s7, q4), (s5, q5), (s37, q6), (s4, q7), (s45, q8), (s49, q9), (s51, q10), (s48, q11), (s69, q12), (s78, q13), (s80, q14), (s77, q15), (s9, q16), (s92, q17), (s2, q18)]
noncomputable def G30 : F2 := .mk ((c_seq (c_fn R30_0) (c_seq (c_seq (c_fn R30_1) (c_cond (.t q6) (c_seq (c_fn R30_2) c_ret) c_skip)) (c_seq (c_seq (c_fn R30_3) (c_seq (c_fn R30_4) (c_cond (.t q8) (c_seq (c_fn R30_5) c_ret) c_skip))) (c_seq (c_fn R30_6) (c_seq (c_seq (c_fn R30_7) (c_blk 0 (loopK (c_seq (c_fn R30_8) (c_seq (c_cond (.t q10) c_skip (c_exit 0)) (c_seq (c_blk 1 (c_seq (c_fn R30_9) (c_seq (c_seq (c_fn R30_10) (c_cond (.t q12) (c_seq (c_fn R30_11) c_ret) c_skip)) (c_fn R30_12)))) (c_fn R30_13))))))) (c_seq (c_seq (c_fn R30_14) (c_blk 2 (loopK (c_seq (c_fn R30_15) (c_seq (c_cond (.t q14) c_skip (c_exit 2)) (c_seq (c_blk 3 (c_seq (c_fn R30_16) (c_seq (c_fn R30_17) (c_cond (.t q17) (c_seq (c_fn R30_18) c_ret) c_skip)))) (c_fn R30_19))))))) (c_seq (c_fn R30_20) c_ret)))))))) [.t q18] [q0]
noncomputable def R31_0 : RegF := fun call e M nx k => VV.onAny (.nils) (e.setK q2 (.nils) fun e => k e M nx)
noncomputable def R31_1 : RegF := fun call e M nx k => e.getK q0 fun v0 => VV.onAny v0 (v_nqS false v0 fun v1 => e.setK q1 v1 fun e => k e M nx)
noncomputable def R31_2 : RegF := fun call e M nx k => e.getK q0 fun v0 => bslV 3 1 0 [] [] M nx fun v1 M nx => VV.onAny v0 (appV 3 1 8 v1 v0 M nx fun v2 M nx => VV.onAny v2 (e.setK q2 v2 fun e => k e M nx))
noncomputable def R31_3 : RegF := fun call e M nx k => VV.onAny (.nils) (e.setK q2 (.nils) fun e => k e M nx)
noncomputable def S31 : List (P × I) := [(s0, q0), (s4, q1), (s2, q2)]
noncomputable def G31 : F2 := .mk (fun call e M nx k => R31_0 call e M nx fun e M nx => R31_1 call e M nx fun e M nx => e.getK q1 fun v => v.onB fun c => Bool.rec (R31_2 call e M nx fun e M nx => k .r e M nx) (R31_3 call e M nx fun e M nx => k .r e M nx) c) [.t q2] [q0]
noncomputable def R32_0 : RegF := fun call e M nx k => e.getK q1 fun v0 => bxV 113 v0 M nx fun v1 M nx => e.setK q3 v1 fun e => k e M nx
noncomputable def R32_1 : RegF := fun call e M nx k => e.getK q0 fun v0 => e.getK q3 fun v1 => (fun M0 => VV.onAny v0 (VV.onAny v0 (v_nck v0 fun v2 => v_fa v2 2 fun v3 => ldV M v3 1 false fun _ v4 => ldV M v1 21 true fun _ v5 => bslV 113 21 1 (rep 9 (.i (.ofNat 0)) ++ [(.bool false), (.i (.ofNat 0)), (.i (.ofNat 0)), (.i (.ofNat 0)), (.str []), (.bool false), (.i (.ofNat 0)), (.i (.ofNat 0)), (.i (.ofNat 0)), (.i (.ofNat 0)), (.i (.ofNat 0)), .nils]) [(0, 21, v5)] M nx fun v6 M nx => appV 113 21 192 v4 v6 M nx fun v7 M nx => v_nck v0 fun v8 => v_fa v8 2 fun v9 => Bool.rec false (stV M v9 v7 1 fun M => k e M nx) (keptB M0 M [])))) M
noncomputable def R32_2 : RegF := fun call e M nx k => e.getK q0 fun v0 => e.getK q2 fun v1 => VV.onAny v0 (VV.onAny v0 (v_nck v0 fun v2 => v_fa v2 3 fun v3 => ldV M v3 1 false fun _ v4 => VV.onAny v1 (bslV 29 1 1 [.nils] [(0, 1, v1)] M nx fun v5 M nx => appV 29 1 24 v4 v5 M nx fun v6 M nx => v_nck v0 fun v7 => v_fa v7 3 fun v8 => stV M v8 v6 1 fun M => k e M nx)))
noncomputable def S32 : List (P × I) := [(s0, q0), (s1, q1), (s2, q2), (s4, q3)]
noncomputable def G32 : F2 := .mk (fun call e M nx k => R32_0 call e M nx fun e M nx => R32_1 call e M nx fun e M nx => R32_2 call e M nx fun e M nx => k .n e M nx) [] [q0, q1, q2]
noncomputable def R33_0 : RegF := fun call e M nx k => e.getK q1 fun v0 => bxV 32 v0 M nx fun v1 M nx => alV 113 (rep 9 (.i (.ofNat 0)) ++ [(.bool false), (.i (.ofNat 0)), (.i (.ofNat 0)), (.i (.ofNat 0)), (.str []), (.bool false), (.i (.ofNat 0)), (.i (.ofNat 0)), (.i (.ofNat 0)), (.i (.ofNat 0)), (.i (.ofNat 0)), .nils]) M nx fun v2 M nx => e.setK q3 v1 fun e => e.setK q2 v2 fun e => k e M nx
noncomputable def R33_1 : RegF := fun call e M nx k => e.getK q0 fun v0 => e.getK q3 fun v1 => e.getK q2 fun v2 => VV.onAny v0 (v_fa v1 0 fun v3 => ldV M v3 1 false fun _ v4 => v_fa v1 1 fun v5 => ldV M v5 1 false fun _ v6 => v_bld [(.i (.ofNat 0)), (.i (.ofNat 0)), (.i (.ofNat 0))] [(0, 1, v4), (1, 1, v6)] fun v7 => callV call s60 [v0, v7, (.i (.ofNat 0))] M nx fun v8 M nx => stV M v2 v8 21 fun M => k e M nx)
noncomputable def S33 : List (P × I) := [(s0, q0), (s1, q1), (s4, q2), (s3, q3)]
noncomputable def G33 : F2 := .mk (fun call e M nx k => R33_0 call e M nx fun e M nx => R33_1 call e M nx fun e M nx => k .r e M nx) [.c q2 21 true] [q0, q1]
noncomputable def R34_0 : RegF := fun call e M nx k => VV.onAny (.nils) (e.setK q8 (.nils) fun e => k e M nx)
noncomputable def R34_1 : RegF := fun call e M nx k => VV.onAny (.nils) (e.setK q3 (.nils) fun e => k e M nx)
noncomputable def R34_2 : RegF := fun call e M nx k => e.getK q3 fun v0 => VV.onAny v0 (VV.onAny v0 (e.setK q8 v0 fun e => k e M nx))
noncomputable def R34_3 : RegF := fun call e M nx k => e.getK q0 fun v0 => VV.onAny v0 (VV.onAny v0 (v_lenS v0 fun v1 => v_min v1 (.i (.ofNat 40)) fun v2 => v_slH v0 v2 fun v3 => v_lenS v3 fun v4 => VV.onAny (.i (.ofNat 0)) (e.setK q6 v3 fun e => e.setK q4 v4 fun e => e.setK q1 (.i (.ofNat 0)) fun e => k e M nx)))
noncomputable def R34_4 : RegF := fun call e M nx k => e.getK q1 fun v0 => e.getK q4 fun v1 => v_lt v0 v1 fun v2 => e.setK q5 v2 fun e => k e M nx
noncomputable def R34_5 : RegF := fun call e M nx k => e.getK q6 fun v0 => e.getK q1 fun v1 => v_ixS v0 v1 9 fun v2 => ldV M v2 9 true fun _ v3 => alV 54 [(.i (.ofNat 0)), (.i (.ofNat 0)), (.i (.ofNat 0)), (.i (.ofNat 0)), (.i (.ofNat 0)), (.i (.ofNat 0)), (.i (.ofNat 0)), (.str []), (.str [])] M nx fun v4 M nx => stV M v4 v3 9 fun M => e.setK q2 v4 fun e => k e M nx
noncomputable def R34_6 : RegF := fun call e M nx k => e.getK q3 fun v0 => e.getK q2 fun v1 => VV.onAny v0 (ldV M v1 9 true fun _ v2 => bslV 54 9 1 [(.i (.ofNat 0)), (.i (.ofNat 0)), (.i (.ofNat 0)), (.i (.ofNat 0)), (.i (.ofNat 0)), (.i (.ofNat 0)), (.i (.ofNat 0)), (.str []), (.str [])] [(0, 9, v2)] M nx fun v3 M nx => appV 54 9 88 v0 v3 M nx fun v4 M nx => VV.onAny v4 (e.setK q3 v4 fun e => k e M nx))
noncomputable def R34_7 : RegF := fun call e M nx k => e.getK q1 fun v0 => v_add v0 (.i (.ofNat 1)) fun v1 => VV.onAny v1 (e.setK q1 v1 fun e => k e M nx)
noncomputable def R34_8 : RegF := fun call e M nx k => e.getK q2 fun v0 => ldV M v0 9 true fun _ v1 => callV call s61 [v1] M nx fun v2 M nx => v_not v2 fun v3 => e.setK q7 v3 fun e => k e M nx
noncomputable def R34_9 : RegF := fun call e M nx k => e.getK q2 fun v0 => v_bld [(.i (.ofNat 0)), (.i (.ofNat 0)), (.i (.ofNat 0)), (.i (.ofNat 0)), (.i (.ofNat 0)), (.i (.ofNat 0)), (.i (.ofNat 0)), (.str []), (.str [])] [] fun v1 => stV M v0 v1 9 fun M => k e M nx
noncomputable def S34 : List (P × I) := [(s0, q0), (s12, q1), (s5, q2), (s3, q3), (s11, q4), (s13, q5), (s10, q6), (s18, q7), (s2, q8)]
noncomputable def G34 : F2 := .mk (fun call e M nx k => R34_0 call e M nx fun e M nx => R34_1 call e M nx fun e M nx => (fun (j0 : En → Mem → P → Bool) => R34_3 call e M nx fun e M nx => (fun (j1 : En → Mem → P → Bool) => loopK (fun call e M nx k => R34_4 call e M nx fun e M nx => e.getK q5 fun v => v.onB fun c => Bool.rec (k (.x 0) e M nx) (R34_5 call e M nx fun e M nx => (fun (j2 : En → Mem → P → Bool) => R34_8 call e M nx fun e M nx => (fun (j3 : En → Mem → P → Bool) => e.getK q7 fun v => v.onB fun c => Bool.rec (j3 e M nx) (R34_9 call e M nx fun e M nx => j3 e M nx) c) fun e M nx => j2 e M nx) fun e M nx => R34_6 call e M nx fun e M nx => R34_7 call e M nx fun e M nx => k .n e M nx) c) call e M nx fun ex e M nx => Ex.rec (j1 e M nx) (k .r e M nx) (fun id => Bool.rec (k (.x id) e M nx) (j1 e M nx) (Nat.beq id 0)) ex) fun e M nx => j0 e M nx) fun e M nx => R34_2 call e M nx fun e M nx => k .r e M nx) [.t q8] [q0]
noncomputable def R35_0 : RegF := fun call e M nx k => e.getK q1 fun v0 => bxV 79 v0 M nx fun v1 M nx => alV 113 (rep 9 (.i (.ofNat 0)) ++ [(.bool false), (.i (.ofNat 0)), (.i (.ofNat 0)), (.i (.ofNat 0)), (.str []), (.bool false), (.i (.ofNat 0)), (.i (.ofNat 0)), (.i (.ofNat 0)), (.i (.ofNat 0)), (.i (.ofNat 0)), .nils]) M nx fun v2 M nx => e.setK q3 v1 fun e => e.setK q2 v2 fun e => k e M nx
noncomputable def R35_1 : RegF := fun call e M nx k => e.getK q0 fun v0 => e.getK q3 fun v1 => e.getK q2 fun v2 => VV.onAny v0 (v_fa v1 0 fun v3 => ldV M v3 1 false fun _ v4 => v_bld [(.i (.ofNat 0)), (.i (.ofNat 0)), (.i (.ofNat 0))] [(0, 1, (.i (.ofNat 0))), (1, 1, v4)] fun v5 => callV call s60 [v0, v5, (.i (.ofNat 1))] M nx fun v6 M nx => stV M v2 v6 21 fun M => k e M nx)
noncomputable def S35 : List (P × I) := [(s0, q0), (s1, q1), (s4, q2), (s3, q3)]
noncomputable def G35 : F2 := .mk (fun call e M nx k => R35_0 call e M nx fun e M nx => R35_1 call e M nx fun e M nx => k .r e M nx) [.c q2 21 true] [q0, q1]
noncomputable def R36_0 : RegF := fun call e M nx k => VV.onAny (.nil) (VV.onAny (.i (.ofNat 0)) (e.setK q2 (.nil) fun e => e.setK q3 (.i (.ofNat 0)) fun e => k e M nx))
noncomputable def R36_1 : RegF := fun call e M nx k => e.getK q0 fun v0 => VV.onAny v0 (v_lenS v0 fun v1 => v_lt (.i (.ofNat 6)) v1 fun v2 => VV.onAny v2 (gdK v2 false .off M nx (fun j => v_mv v0 fun v => j v M nx) fun v3 M nx => gdK v2 false .no M nx (fun j => callV call s62 [v3, (.fn s63 [] [])] M nx fun v M nx => j v M nx) fun v4 M nx => v_pick v2 (.bool true) v4 fun v5 => e.setK q1 v5 fun e => k e M nx))
noncomputable def R36_2 : RegF := fun call e M nx k => e.getK q0 fun v0 => VV.onAny v0 (callV call s65 [v0] M nx fun v1 M nx => v_bld [.nils] [(0, 1, v1)] fun v2 => bxV 155 v2 M nx fun v3 M nx => VV.onAny v3 (VV.onAny (.i (.ofNat 0)) (e.setK q2 v3 fun e => e.setK q3 (.i (.ofNat 0)) fun e => k e M nx)))
noncomputable def R36_3 : RegF := fun call e M nx k => VV.onAny (.nil) (VV.onAny (.i (.ofNat 2)) (e.setK q2 (.nil) fun e => e.setK q3 (.i (.ofNat 2)) fun e => k e M nx))
noncomputable def S36 : List (P × I) := [(s0, q0), (s10, q1), (s2, q2), (s3, q3)]
noncomputable def G36 : F2 := .mk (fun call e M nx k => R36_0 call e M nx fun e M nx => R36_1 call e M nx fun e M nx => e.getK q1 fun v => v.onB fun c => Bool.rec (R36_2 call e M nx fun e M nx => k .r e M nx) (R36_3 call e M nx fun e M nx => k .r e M nx) c) [.t q2, .t q3] [q0]
noncomputable def R37_0 : RegF := fun call e M nx k => VV.onAny (.nil) (e.setK q2 (.nil) fun e => k e M nx)
noncomputable def R37_1 : RegF := fun call e M nx k => e.getK q0 fun v0 => VV.onAny v0 (mkmV M nx fun v1 M nx => mkmV M nx fun v2 M nx => v_bld [.nil, .nilm, .nilm] [(0, 1, v0), (1, 1, v1), (2, 1, v2)] fun v3 => bxV 158 v3 M nx fun v4 M nx => VV.onAny v4 (e.setK q2 v4 fun e => k e M nx))
noncomputable def R37_2 : RegF := fun call e M nx k => e.getK q0 fun v0 => VV.onAny v0 (v_nqP false v0 fun v1 => e.setK q1 v1 fun e => k e M nx)
noncomputable def R37_3 : RegF := fun call e M nx k => callV call s36 [(.nils)] M nx fun v0 M nx => VV.onAny v0 (v_ext v0 0 fun v1 => v_ext v0 1 fun v2 => VV.onAny v1 (e.setK q0 v1 fun e => k e M nx))
noncomputable def S37 : List (P × I) := [(s0, q0), (s4, q1), (s2, q2)]
noncomputable def G37 : F2 := .mk (fun call e M nx k => R37_0 call e M nx fun e M nx => (fun (j0 : En → Mem → P → Bool) => R37_2 call e M nx fun e M nx => (fun (j1 : En → Mem → P → Bool) => e.getK q1 fun v => v.onB fun c => Bool.rec (j1 e M nx) (R37_3 call e M nx fun e M nx => j1 e M nx) c) fun e M nx => j0 e M nx) fun e M nx => R37_1 call e M nx fun e M nx => k .r e M nx) [.t q2] [q0]
noncomputable def R38_0 : RegF := fun call e M nx k => VV.onAny (.nil) (VV.onAny (.i (.ofNat 0)) (e.setK q2 (.nil) fun e => e.setK q3 (.i (.ofNat 0)) fun e => k e M nx))
noncomputable def R38_1 : RegF := fun call e M nx k => e.getK q0 fun v0 => VV.onAny v0 (v_lt v0 (.i (.ofNat 1)) fun v1 => VV.onAny v1 (gdK v1 false .off M nx (fun j => v_mv v0 fun v => j v M nx) fun v2 M nx => gdK v1 false .off M nx (fun j => v_lt (.i (.ofNat 4)) v2 fun v => j v M nx) fun v3 M nx => v_pick v1 (.bool true) v3 fun v4 => e.setK q1 v4 fun e => k e M nx))
noncomputable def R38_2 : RegF := fun call e M nx k => e.getK q0 fun v0 => VV.onAny v0 (mksV 26 1 24 [.nils] v0 v0 M nx fun v1 M nx => v_bld [.nils] [(0, 1, v1)] fun v2 => bxV 161 v2 M nx fun v3 M nx => VV.onAny v3 (VV.onAny (.i (.ofNat 0)) (e.setK q2 v3 fun e => e.setK q3 (.i (.ofNat 0)) fun e => k e M nx)))
noncomputable def R38_3 : RegF := fun call e M nx k => VV.onAny (.nil) (VV.onAny (.i (.ofNat 2)) (e.setK q2 (.nil) fun e => e.setK q3 (.i (.ofNat 2)) fun e => k e M nx))
noncomputable def S38 : List (P × I) := [(s0, q0), (s9, q1), (s2, q2), (s3, q3)]
noncomputable def G38 : F2 := .mk (fun call e M nx k => R38_0 call e M nx fun e M nx => R38_1 call e M nx fun e M nx => e.getK q1 fun v => v.onB fun c => Bool.rec (R38_2 call e M nx fun e M nx => k .r e M nx) (R38_3 call e M nx fun e M nx => k .r e M nx) c) [.t q2, .t q3] [q0]
noncomputable def R39_0 : RegF := fun call e M nx k => VV.onAny (.nil) (VV.onAny (.i (.ofNat 0)) (e.setK q2 (.nil) fun e => e.setK q3 (.i (.ofNat 0)) fun e => k e M nx))
noncomputable def R39_1 : RegF := fun call e M nx k => e.getK q0 fun v0 => VV.onAny v0 (v_lt v0 (.i (.ofNat 0)) fun v1 => VV.onAny v1 (gdK v1 false .off M nx (fun j => v_mv v0 fun v => j v M nx) fun v2 M nx => gdK v1 false .off M nx (fun j => v_le (.i (.ofNat 16777216)) v2 fun v => j v M nx) fun v3 M nx => v_pick v1 (.bool true) v3 fun v4 => e.setK q1 v4 fun e => k e M nx))
noncomputable def R39_2 : RegF := fun call e M nx k => e.getK q0 fun v0 => VV.onAny v0 (v_bld ([(.i (.ofNat 0))] ++ rep 256 .nils ++ [(.i (.ofNat 0))]) [(0, 1, v0)] fun v1 => bxV 167 v1 M nx fun v2 M nx => VV.onAny v2 (VV.onAny (.i (.ofNat 0)) (e.setK q2 v2 fun e => e.setK q3 (.i (.ofNat 0)) fun e => k e M nx)))
noncomputable def R39_3 : RegF := fun call e M nx k => VV.onAny (.nil) (VV.onAny (.i (.ofNat 2)) (e.setK q2 (.nil) fun e => e.setK q3 (.i (.ofNat 2)) fun e => k e M nx))
noncomputable def S39 : List (P × I) := [(s0, q0), (s9, q1), (s2, q2), (s3, q3)]
noncomputable def G39 : F2 := .mk (fun call e M nx k => R39_0 call e M nx fun e M nx => R39_1 call e M nx fun e M nx => e.getK q1 fun v => v.onB fun c => Bool.rec (R39_2 call e M nx fun e M nx => k .r e M nx) (R39_3 call e M nx fun e M nx => k .r e M nx) c) [.t q2, .t q3] [q0]
noncomputable def R41_0 : RegF := fun call e M nx k => VV.onAny (.nil) (VV.onAny (.i (.ofNat 0)) (e.setK q2 (.nil) fun e => e.setK q3 (.i (.ofNat 0)) fun e => k e M nx))
noncomputable def R41_1 : RegF := fun call e M nx k => e.getK q0 fun v0 => VV.onAny v0 (v_lt v0 (.i (.ofNat 1)) fun v1 => VV.onAny v1 (gdK v1 false .off M nx (fun j => v_mv v0 fun v => j v M nx) fun v2 M nx => gdK v1 false .off M nx (fun j => v_lt (.i (.ofNat 1099511627776)) v2 fun v => j v M nx) fun v3 M nx => v_pick v1 (.bool true) v3 fun v4 => e.setK q1 v4 fun e => k e M nx))
noncomputable def R41_2 : RegF := fun call e M nx k => e.getK q0 fun v0 => VV.onAny v0 (v_bld [(.i (.ofNat 0)), (.i (.ofNat 0)), .nils] [(0, 1, v0)] fun v1 => bxV 171 v1 M nx fun v2 M nx => VV.onAny v2 (VV.onAny (.i (.ofNat 0)) (e.setK q2 v2 fun e => e.setK q3 (.i (.ofNat 0)) fun e => k e M nx)))
noncomputable def R41_3 : RegF := fun call e M nx k => VV.onAny (.nil) (VV.onAny (.i (.ofNat 2)) (e.setK q2 (.nil) fun e => e.setK q3 (.i (.ofNat 2)) fun e => k e M nx))
noncomputable def S41 : List (P × I) := [(s0, q0), (s9, q1), (s2, q2), (s3, q3)]
noncomputable def G41 : F2 := .mk (fun call e M nx k => R41_0 call e M nx fun e M nx => R41_1 call e M nx fun e M nx => e.getK q1 fun v => v.onB fun c => Bool.rec (R41_2 call e M nx fun e M nx => k .r e M nx) (R41_3 call e M nx fun e M nx => k .r e M nx) c) [.t q2, .t q3] [q0]
noncomputable def R42_0 : RegF := fun call e M nx k => VV.onAny (.nil) (VV.onAny (.i (.ofNat 0)) (e.setK q5 (.nil) fun e => e.setK q6 (.i (.ofNat 0)) fun e => k e M nx))
noncomputable def R42_1 : RegF := fun call e M nx k => e.getK q0 fun v0 => VV.onAny v0 (callV call s66 [v0] M nx fun v1 M nx => VV.onAny v1 (v_ext v1 0 fun v2 => v_ext v1 1 fun v3 => VV.onAny v2 (VV.onAny v3 (e.setK q2 v2 fun e => e.setK q1 v3 fun e => k e M nx))))
noncomputable def R42_2 : RegF := fun call e M nx k => e.getK q1 fun v0 => VV.onAny v0 (v_ne v0 (.i (.ofNat 0)) fun v1 => e.setK q3 v1 fun e => k e M nx)
noncomputable def R42_3 : RegF := fun call e M nx k => e.getK q2 fun v0 => VV.onAny v0 (callV call s67 [v0] M nx fun v1 M nx => VV.onAny v1 (e.setK q4 v1 fun e => k e M nx))
noncomputable def R42_4 : RegF := fun call e M nx k => e.getK q2 fun v0 => e.getK q4 fun v1 => VV.onAny v0 (VV.onAny v1 (VV.onAny v1 (VV.onAny v0 (callV call s70 [v0] M nx fun v2 M nx => callV call s69 [v2] M nx fun v3 M nx => callV call s68 [v1, v3] M nx fun v4 M nx => callV call s71 [] M nx fun v5 M nx => v_bld [.nil, .nil, .nil, .nil] [(0, 1, v0), (1, 1, v1), (2, 1, v4), (3, 1, v5)] fun v6 => bxV 186 v6 M nx fun v7 M nx => VV.onAny v7 (VV.onAny (.i (.ofNat 0)) (e.setK q5 v7 fun e => e.setK q6 (.i (.ofNat 0)) fun e => k e M nx))))))
noncomputable def R42_5 : RegF := fun call e M nx k => e.getK q1 fun v0 => VV.onAny v0 (VV.onAny (.nil) (VV.onAny v0 (e.setK q5 (.nil) fun e => e.setK q6 v0 fun e => k e M nx)))
noncomputable def S42 : List (P × I) := [(s0, q0), (s5, q1), (s4, q2), (s13, q3), (s6, q4), (s2, q5), (s3, q6)]
noncomputable def G42 : F2 := .mk (fun call e M nx k => R42_0 call e M nx fun e M nx => R42_1 call e M nx fun e M nx => R42_2 call e M nx fun e M nx => e.getK q3 fun v => v.onB fun c => Bool.rec (R42_3 call e M nx fun e M nx => R42_4 call e M nx fun e M nx => k .r e M nx) (R42_5 call e M nx fun e M nx => k .r e M nx) c) [.t q5, .t q6] [q0]
noncomputable def R43_0 : RegF := fun call e M nx k => VV.onAny (.i (.ofNat 0)) (e.setK q5 (.i (.ofNat 0)) fun e => k e M nx)
noncomputable def R43_1 : RegF := fun call e M nx k => e.getK q0 fun v0 => VV.onAny v0 (v_nqP false v0 fun v1 => e.setK q3 v1 fun e => k e M nx)
noncomputable def R43_2 : RegF := fun call e M nx k => e.getK q0 fun v0 => e.getK q1 fun v1 => VV.onAny v0 (v_nck v0 fun v2 => v_fa v2 3 fun v3 => ldV M v3 1 false fun _ v4 => VV.onAny v1 (callV call s72 [v4, v1, (.i (.negSucc 0))] M nx fun v5 M nx => VV.onAny v5 (e.setK q2 v5 fun e => k e M nx)))
noncomputable def R43_3 : RegF := fun call e M nx k => e.getK q2 fun v0 => VV.onAny v0 (v_ne v0 (.i (.ofNat 0)) fun v1 => e.setK q4 v1 fun e => k e M nx)
noncomputable def R43_4 : RegF := fun call e M nx k => e.getK q0 fun v0 => e.getK q1 fun v1 => VV.onAny v0 (v_nck v0 fun v2 => v_fa v2 2 fun v3 => ldV M v3 1 false fun _ v4 => VV.onAny v1 (callV call s73 [v4, v1] M nx fun v5 M nx => VV.onAny v5 (e.setK q5 v5 fun e => k e M nx)))
noncomputable def R43_5 : RegF := fun call e M nx k => e.getK q2 fun v0 => VV.onAny v0 (VV.onAny v0 (e.setK q5 v0 fun e => k e M nx))
noncomputable def R43_6 : RegF := fun call e M nx k => VV.onAny (.i (.ofNat 1)) (e.setK q5 (.i (.ofNat 1)) fun e => k e M nx)
noncomputable def S43 : List (P × I) := [(s0, q0), (s1, q1), (s5, q2), (s7, q3), (s15, q4), (s4, q5)]
noncomputable def G43 : F2 := .mk (fun call e M nx k => R43_0 call e M nx fun e M nx => R43_1 call e M nx fun e M nx => e.getK q3 fun v => v.onB fun c => Bool.rec (R43_2 call e M nx fun e M nx => R43_3 call e M nx fun e M nx => e.getK q4 fun v => v.onB fun c => Bool.rec (R43_4 call e M nx fun e M nx => k .r e M nx) (R43_5 call e M nx fun e M nx => k .r e M nx) c) (R43_6 call e M nx fun e M nx => k .r e M nx) c) [.t q5] [q0, q1]
noncomputable def R44_0 : RegF := fun call e M nx k => VV.onAny (.nils) (VV.onAny (.i (.ofNat 0)) (e.setK q17 (.nils) fun e => e.setK q18 (.i (.ofNat 0)) fun e => k e M nx))
noncomputable def R44_1 : RegF := fun call e M nx k => e.getK q0 fun v0 => VV.onAny v0 (v_nqP false v0 fun v1 => VV.onAny v1 (gdK v1 false .off M nx (fun j => v_mv v0 fun v => j v M nx) fun v2 M nx => gdK v1 false .off M nx (fun j => v_nck v2 fun v => j v M nx) fun v3 M nx => gdK v1 false .off M nx (fun j => v_fa v3 0 fun v => j v M nx) fun v4 M nx => gdK v1 false .off M nx (fun j => ldV M v4 1 false fun _ v => j v M nx) fun v5 M nx => gdK v1 false .off M nx (fun j => v_eq v5 (.i (.ofNat 16777215)) fun v => j v M nx) fun v6 M nx => v_pick v1 (.bool true) v6 fun v7 => e.setK q7 v7 fun e => k e M nx))
noncomputable def R44_2 : RegF := fun call e M nx k => e.getK q0 fun v0 => VV.onAny v0 (v_nck v0 fun v1 => v_fa v1 0 fun v2 => ldV M v2 1 false fun _ v3 => v_add v3 (.i (.ofNat 1)) fun v4 => v_nck v0 fun v5 => v_fa v5 0 fun v6 => stV M v6 v4 1 fun M => k e M nx)
noncomputable def R44_3 : RegF := fun call e M nx k => VV.onAny (.nils) (e.setK q4 (.nils) fun e => k e M nx)
noncomputable def R44_4 : RegF := fun call e M nx k => VV.onAny (.i (.ofNat 0)) (e.setK q6 (.i (.ofNat 0)) fun e => k e M nx)
noncomputable def R44_5 : RegF := fun call e M nx k => e.getK q4 fun v0 => VV.onAny v0 (callV call s78 [v0] M nx fun v1 M nx => k e M nx)
noncomputable def R44_6 : RegF := fun call e M nx k => e.getK q4 fun v0 => e.getK q6 fun v1 => VV.onAny v0 (VV.onAny v1 (VV.onAny v0 (VV.onAny v1 (e.setK q17 v0 fun e => e.setK q18 v1 fun e => k e M nx))))
noncomputable def R44_7 : RegF := fun call e M nx k => VV.onAny (.i (.ofNat 3)) (e.setK q1 (.i (.ofNat 3)) fun e => k e M nx)
noncomputable def R44_8 : RegF := fun call e M nx k => e.getK q1 fun v0 => VV.onAny v0 (v_le (.i (.ofNat 0)) v0 fun v1 => e.setK q8 v1 fun e => k e M nx)
noncomputable def R44_9 : RegF := fun call e M nx k => e.getK q1 fun v0 => VV.onAny v0 (v_sub v0 (.i (.ofNat 1)) fun v1 => VV.onAny v1 (e.setK q1 v1 fun e => k e M nx))
noncomputable def R44_10 : RegF := fun call e M nx k => e.getK q0 fun v0 => e.getK q1 fun v1 => VV.onAny v0 (v_nck v0 fun v2 => v_fa v2 0 fun v3 => ldV M v3 1 false fun _ v4 => VV.onAny v1 (v_mul (.i (.ofNat 6)) v1 fun v5 => v_conv .u64 v5 fun v6 => v_kop .shl (.i (.ofNat 1)) v6 fun v7 => v_sub v7 (.i (.ofNat 1)) fun v8 => v_kop .and v4 v8 fun v9 => v_ne v9 (.i (.ofNat 0)) fun v10 => e.setK q9 v10 fun e => k e M nx))
noncomputable def R44_11 : RegF := fun call e M nx k => e.getK q0 fun v0 => e.getK q1 fun v1 => (fun M0 => VV.onAny v0 (VV.onAny v1 (VV.onAny v0 (v_nck v0 fun v2 => v_fa v2 0 fun v3 => ldV M v3 1 false fun _ v4 => VV.onAny v1 (callV call s74 [v4, v1] M nx fun v5 M nx => v_nck v0 fun v6 => v_fa v6 1 fun v7 => v_ixA v7 v1 4 64 fun v8 => v_ixA v8 v5 64 1 fun v9 => VV.onAny v9 (Bool.rec false (e.setK q5 v9 fun e => k e M nx) (keptB M0 M []))))))) M
noncomputable def R44_12 : RegF := fun call e M nx k => e.getK q5 fun v0 => VV.onAny v0 (v_nck v0 fun v1 => ldV M v1 1 false fun _ v2 => VV.onAny v2 (e.setK q10 v2 fun e => k e M nx))
noncomputable def R44_13 : RegF := fun call e M nx k => e.getK q5 fun v0 => VV.onAny v0 (v_nck v0 fun v1 => stV M v1 (.nils) 1 fun M => k e M nx)
noncomputable def R44_14 : RegF := fun call e M nx k => e.getK q10 fun v0 => VV.onAny v0 (v_lenS v0 fun v1 => VV.onAny (.i (.ofNat 0)) (e.setK q13 v0 fun e => e.setK q11 v1 fun e => e.setK q3 (.i (.ofNat 0)) fun e => k e M nx))
noncomputable def R44_15 : RegF := fun call e M nx k => e.getK q3 fun v0 => e.getK q11 fun v1 => v_lt v0 v1 fun v2 => e.setK q12 v2 fun e => k e M nx
noncomputable def R44_16 : RegF := fun call e M nx k => e.getK q3 fun v0 => v_add v0 (.i (.ofNat 1)) fun v1 => VV.onAny v1 (e.setK q3 v1 fun e => k e M nx)
noncomputable def R44_17 : RegF := fun call e M nx k => e.getK q13 fun v0 => e.getK q3 fun v1 => v_ixS v0 v1 2 fun v2 => ldV M v2 2 true fun _ v3 => alV 190 [(.i (.ofNat 0)), (.i (.ofNat 0))] M nx fun v4 M nx => stV M v4 v3 2 fun M => e.setK q2 v4 fun e => k e M nx
noncomputable def R44_18 : RegF := fun call e M nx k => e.getK q2 fun v0 => e.getK q0 fun v1 => (fun M0 => v_fa v0 1 fun v2 => ldV M v2 1 false fun _ v3 => VV.onAny v1 (v_nck v1 fun v4 => v_fa v4 0 fun v5 => ldV M v5 1 false fun _ v6 => v_eq v3 v6 fun v7 => VV.onAny v7 (Bool.rec false (e.setK q14 v7 fun e => k e M nx) (keptB M0 M [])))) M
noncomputable def R44_19 : RegF := fun call e M nx k => e.getK q0 fun v0 => e.getK q2 fun v1 => VV.onAny v0 (ldV M v1 2 true fun _ v2 => callV call s76 [v0, v2, (.fn s77 [] [])] M nx fun v3 M nx => k e M nx)
noncomputable def R44_20 : RegF := fun call e M nx k => e.getK q0 fun v0 => e.getK q2 fun v1 => VV.onAny v0 (v_fa v1 1 fun v2 => ldV M v2 1 false fun _ v3 => callV call s75 [v0, v3] M nx fun v4 M nx => VV.onAny v4 (v_ext v4 0 fun v5 => v_ext v4 1 fun v6 => VV.onAny v5 (VV.onAny v6 (e.setK q15 v5 fun e => k e M nx))))
noncomputable def R44_21 : RegF := fun call e M nx k => e.getK q15 fun v0 => e.getK q1 fun v1 => VV.onAny v0 (VV.onAny v1 (v_ne v0 v1 fun v2 => e.setK q16 v2 fun e => k e M nx))
noncomputable def R44_22 : RegF := fun call e M nx k => e.getK q6 fun v0 => VV.onAny v0 (v_add v0 (.i (.ofNat 1)) fun v1 => VV.onAny v1 (e.setK q6 v1 fun e => k e M nx))
noncomputable def R44_23 : RegF := fun call e M nx k => e.getK q4 fun v0 => e.getK q2 fun v1 => VV.onAny v0 (v_fa v1 0 fun v2 => ldV M v2 1 false fun _ v3 => bslV 3 1 1 [(.i (.ofNat 0))] [(0, 1, v3)] M nx fun v4 M nx => appV 3 1 8 v0 v4 M nx fun v5 M nx => VV.onAny v5 (e.setK q4 v5 fun e => k e M nx))
noncomputable def R44_24 : RegF := fun call e M nx k => e.getK q0 fun v0 => VV.onAny v0 (v_nck v0 fun v1 => v_fa v1 257 fun v2 => ldV M v2 1 false fun _ v3 => v_sub v3 (.i (.ofNat 1)) fun v4 => v_nck v0 fun v5 => v_fa v5 257 fun v6 => stV M v6 v4 1 fun M => k e M nx)
noncomputable def R44_25 : RegF := fun call e M nx k => VV.onAny (.nils) (VV.onAny (.i (.ofNat 0)) (e.setK q17 (.nils) fun e => e.setK q18 (.i (.ofNat 0)) fun e => k e M nx))
noncomputable def S44 : List (P × I) := [(s0, q0), (s6, q1), (s10, q2), (s63, q3), (s4, q4), (s7, q5), (s5, q6), (s21, q7), (s30, q8), (s43, q9), (s8, q10), (s62, q11), (s64, q12), (s61, q13), (s82, q14), (s11, q15), (s76, q16), (s2, q17), (s3, q18)]
noncomputable def G44 : F2 := .mk (fun call e M nx k => R44_0 call e M nx fun e M nx => R44_1 call e M nx fun e M nx => e.getK q7 fun v => v.onB fun c => Bool.rec (R44_2 call e M nx fun e M nx => R44_3 call e M nx fun e M nx => R44_4 call e M nx fun e M nx => (fun (j0 : En → Mem → P → Bool) => R44_7 call e M nx fun e M nx => (fun (j1 : En → Mem → P → Bool) => loopK (fun call e M nx k => R44_8 call e M nx fun e M nx => e.getK q8 fun v => v.onB fun c => Bool.rec (k (.x 0) e M nx) ((fun (j2 : En → Mem → P → Bool) => (fun (j3 : En → Mem → P → Bool) => R44_10 call e M nx fun e M nx => e.getK q9 fun v => v.onB fun c => Bool.rec (R44_11 call e M nx fun e M nx => R44_12 call e M nx fun e M nx => R44_13 call e M nx fun e M nx => R44_14 call e M nx fun e M nx => (fun (j4 : En → Mem → P → Bool) => loopK (fun call e M nx k => R44_15 call e M nx fun e M nx => e.getK q12 fun v => v.onB fun c => Bool.rec (k (.x 2) e M nx) ((fun (j5 : En → Mem → P → Bool) => (fun (j6 : En → Mem → P → Bool) => R44_17 call e M nx fun e M nx => (fun (j7 : En → Mem → P → Bool) => R44_18 call e M nx fun e M nx => (fun (j8 : En → Mem → P → Bool) => e.getK q14 fun v => v.onB fun c => Bool.rec ((fun (j9 : En → Mem → P → Bool) => R44_20 call e M nx fun e M nx => R44_21 call e M nx fun e M nx => (fun (j10 : En → Mem → P → Bool) => e.getK q16 fun v => v.onB fun c => Bool.rec (j10 e M nx) (R44_22 call e M nx fun e M nx => j10 e M nx) c) fun e M nx => j9 e M nx) fun e M nx => R44_19 call e M nx fun e M nx => j8 e M nx) (R44_23 call e M nx fun e M nx => R44_24 call e M nx fun e M nx => j8 e M nx) c) fun e M nx => j7 e M nx) fun e M nx => j6 e M nx) fun e M nx => j5 e M nx) fun e M nx => R44_16 call e M nx fun e M nx => k .n e M nx) c) call e M nx fun ex e M nx => Ex.rec (j4 e M nx) (k .r e M nx) (fun id => Bool.rec (Bool.rec (k (.x id) e M nx) (j3 e M nx) (Nat.beq id 1)) (j4 e M nx) (Nat.beq id 2)) ex) fun e M nx => j3 e M nx) (j3 e M nx) c) fun e M nx => j2 e M nx) fun e M nx => R44_9 call e M nx fun e M nx => k .n e M nx) c) call e M nx fun ex e M nx => Ex.rec (j1 e M nx) (k .r e M nx) (fun id => Bool.rec (k (.x id) e M nx) (j1 e M nx) (Nat.beq id 0)) ex) fun e M nx => j0 e M nx) fun e M nx => R44_5 call e M nx fun e M nx => R44_6 call e M nx fun e M nx => k .r e M nx) (R44_25 call e M nx fun e M nx => k .r e M nx) c) [.t q17, .t q18] [q0]
noncomputable def R47_0 : RegF := fun call e M nx k => e.getK q1 fun v0 => bxV 41 v0 M nx fun v1 M nx => e.setK q2 v1 fun e => k e M nx
noncomputable def R47_1 : RegF := fun call e M nx k => e.getK q2 fun v0 => e.getK q0 fun v1 => (fun M0 => v_fa v0 1 fun v2 => ldV M v2 1 false fun _ v3 => v_le (.i (.ofNat 0)) v3 fun v4 => VV.onAny v4 (gdK v4 true .off M nx (fun j => v_fa v0 1 fun v => j v M nx) fun v5 M nx => gdK v4 true .off M nx (fun j => ldV M v5 1 false fun _ v => j v M nx) fun v6 M nx => gdK v4 true .off M nx (fun j => v_mv v1 fun v => j v M nx) fun v7 M nx => gdK v4 true .off M nx (fun j => v_nck v7 fun v => j v M nx) fun v8 M nx => gdK v4 true .off M nx (fun j => v_fa v8 8 fun v => j v M nx) fun v9 M nx => gdK v4 true .off M nx (fun j => ldV M v9 1 false fun _ v => j v M nx) fun v10 M nx => gdK v4 true .off M nx (fun j => v_lenS v10 fun v => j v M nx) fun v11 M nx => gdK v4 true .off M nx (fun j => v_lt v6 v11 fun v => j v M nx) fun v12 M nx => v_pick v4 v12 (.bool false) fun v13 => VV.onAny v13 (Bool.rec false (e.setK q3 v13 fun e => k e M nx) (keptB M0 M [])))) M
noncomputable def R47_2 : RegF := fun call e M nx k => e.getK q2 fun v0 => e.getK q0 fun v1 => (fun M0 => v_fa v0 1 fun v2 => ldV M v2 1 false fun _ v3 => v_eq v3 (.i (.negSucc 0)) fun v4 => VV.onAny v4 (gdK v4 true .off M nx (fun j => v_fa v0 2 fun v => j v M nx) fun v5 M nx => gdK v4 true .off M nx (fun j => ldV M v5 1 false fun _ v => j v M nx) fun v6 M nx => gdK v4 true .off M nx (fun j => v_le (.i (.ofNat 0)) v6 fun v => j v M nx) fun v7 M nx => v_pick v4 v7 (.bool false) fun v8 => VV.onAny v8 (gdK v8 true .off M nx (fun j => v_fa v0 2 fun v => j v M nx) fun v9 M nx => gdK v8 true .off M nx (fun j => ldV M v9 1 false fun _ v => j v M nx) fun v10 M nx => gdK v8 true .off M nx (fun j => v_mv v1 fun v => j v M nx) fun v11 M nx => gdK v8 true .off M nx (fun j => v_nck v11 fun v => j v M nx) fun v12 M nx => gdK v8 true .off M nx (fun j => v_fa v12 0 fun v => j v M nx) fun v13 M nx => gdK v8 true .off M nx (fun j => ldV M v13 1 false fun _ v => j v M nx) fun v14 M nx => gdK v8 true .off M nx (fun j => v_lenS v14 fun v => j v M nx) fun v15 M nx => gdK v8 true .off M nx (fun j => v_lt v10 v15 fun v => j v M nx) fun v16 M nx => v_pick v8 v16 (.bool false) fun v17 => VV.onAny v17 (gdK v17 true .off M nx (fun j => v_mv v1 fun v => j v M nx) fun v18 M nx => gdK v17 true .off M nx (fun j => v_nck v18 fun v => j v M nx) fun v19 M nx => gdK v17 true .off M nx (fun j => v_fa v19 0 fun v => j v M nx) fun v20 M nx => gdK v17 true .off M nx (fun j => ldV M v20 1 false fun _ v => j v M nx) fun v21 M nx => gdK v17 true .off M nx (fun j => v_fa v0 2 fun v => j v M nx) fun v22 M nx => gdK v17 true .off M nx (fun j => ldV M v22 1 false fun _ v => j v M nx) fun v23 M nx => gdK v17 true .off M nx (fun j => v_ixS v21 v23 8 fun v => j v M nx) fun v24 M nx => gdK v17 true .off M nx (fun j => v_fa v24 5 fun v => j v M nx) fun v25 M nx => gdK v17 true .off M nx (fun j => ldV M v25 1 false fun _ v => j v M nx) fun v26 M nx => gdK v17 true .off M nx (fun j => v_eq v26 (.i (.negSucc 0)) fun v => j v M nx) fun v27 M nx => v_pick v17 v27 (.bool false) fun v28 => VV.onAny v28 (Bool.rec false (e.setK q4 v28 fun e => k e M nx) (keptB M0 M [])))))) M
noncomputable def R47_3 : RegF := fun call e M nx k => e.getK q0 fun v0 => e.getK q2 fun v1 => (fun M0 => VV.onAny v0 (v_fa v1 2 fun v2 => ldV M v2 1 false fun _ v3 => VV.onAny v0 (v_nck v0 fun v4 => v_fa v4 1 fun v5 => ldV M v5 1 false fun _ v6 => callV call s83 [v0, v3, v6] M nx fun v7 M nx => Bool.rec false (k e M nx) (keptB M0 M [])))) M
noncomputable def R47_4 : RegF := fun call e M nx k => e.getK q0 fun v0 => e.getK q2 fun v1 => (fun M0 => VV.onAny v0 (v_nck v0 fun v2 => v_fa v2 8 fun v3 => ldV M v3 1 false fun _ v4 => v_fa v1 1 fun v5 => ldV M v5 1 false fun _ v6 => v_ixS v4 v6 1 fun v7 => ldV M v7 1 false fun _ v8 => VV.onAny v0 (v_nck v0 fun v9 => v_fa v9 1 fun v10 => ldV M v10 1 false fun _ v11 => callV call s82 [v8, v11] M nx fun v12 M nx => Bool.rec false (k e M nx) (keptB M0 M [])))) M
noncomputable def S47 : List (P × I) := [(s0, q0), (s1, q1), (s3, q2), (s4, q3), (s31, q4)]
noncomputable def G47 : F2 := .mk (fun call e M nx k => R47_0 call e M nx fun e M nx => (fun (j0 : En → Mem → P → Bool) => R47_1 call e M nx fun e M nx => (fun (j1 : En → Mem → P → Bool) => e.getK q3 fun v => v.onB fun c => Bool.rec (R47_2 call e M nx fun e M nx => (fun (j2 : En → Mem → P → Bool) => e.getK q4 fun v => v.onB fun c => Bool.rec (j2 e M nx) (R47_3 call e M nx fun e M nx => j2 e M nx) c) fun e M nx => j1 e M nx) (R47_4 call e M nx fun e M nx => j1 e M nx) c) fun e M nx => j0 e M nx) fun e M nx => k .n e M nx) [] [q0, q1]
noncomputable def R48_0 : RegF := fun call e M nx k => alV 60 [(.i (.ofNat 0)), (.bool false)] M nx fun v0 M nx => e.setK q2 v0 fun e => k e M nx
noncomputable def R48_1 : RegF := fun call e M nx k => e.getK q0 fun v0 => VV.onAny v0 (v_nck v0 fun v1 => v_fa v1 2 fun v2 => ldV M v2 1 false fun _ v3 => callV call s84 [v3, (.fn s85 [] [])] M nx fun v4 M nx => VV.onAny v4 (e.setK q1 v4 fun e => k e M nx))
noncomputable def R48_2 : RegF := fun call e M nx k => e.getK q0 fun v0 => VV.onAny v0 (VV.onAny v0 (callV call s87 [v0] M nx fun v1 M nx => v_nck v0 fun v2 => v_fa v2 13 fun v3 => stV M v3 v1 5 fun M => k e M nx))
noncomputable def R48_3 : RegF := fun call e M nx k => e.getK q1 fun v0 => VV.onAny v0 (v_lt v0 (.i (.ofNat 0)) fun v1 => e.setK q7 v1 fun e => k e M nx)
noncomputable def R48_4 : RegF := fun call e M nx k => e.getK q0 fun v0 => e.getK q1 fun v1 => VV.onAny v0 (v_nck v0 fun v2 => v_fa v2 5 fun v3 => ldV M v3 1 false fun _ v4 => VV.onAny v1 (callV call s91 [v4, v1, (.i (.ofNat 1))] M nx fun v5 M nx => k e M nx))
noncomputable def R48_5 : RegF := fun call e M nx k => e.getK q0 fun v0 => e.getK q1 fun v1 => VV.onAny v0 (v_nck v0 fun v2 => v_fa v2 2 fun v3 => ldV M v3 1 false fun _ v4 => VV.onAny v1 (v_ixS v4 v1 21 fun v5 => v_fa v5 19 fun v6 => ldV M v6 1 false fun _ v7 => v_lt v7 (.i (.ofNat 0)) fun v8 => VV.onAny v8 (gdK v8 true .off M nx (fun j => v_mv v0 fun v => j v M nx) fun v9 M nx => gdK v8 true .off M nx (fun j => v_mv v1 fun v => j v M nx) fun v10 M nx => gdK v8 true .no M nx (fun j => callV call s92 [v9, v10] M nx fun v M nx => j v M nx) fun v11 M nx => gdK v8 true .off M nx (fun j => v_fd v11 0 1 false fun v => j v M nx) fun v12 M nx => gdK v8 true .off M nx (fun j => v_eq v12 (.i (.ofNat 10)) fun v => j v M nx) fun v13 M nx => v_pick v8 v13 (.bool false) fun v14 => VV.onAny v14 (e.setK q9 v14 fun e => k e M nx))))
noncomputable def R48_6 : RegF := fun call e M nx k => e.getK q0 fun v0 => e.getK q1 fun v1 => VV.onAny v0 (VV.onAny v1 (callV call s93 [v0, v1] M nx fun v2 M nx => k e M nx))
noncomputable def R48_7 : RegF := fun call e M nx k => e.getK q0 fun v0 => e.getK q1 fun v1 => VV.onAny v0 (VV.onAny v1 (callV call s94 [v0, v1] M nx fun v2 M nx => k e M nx))
noncomputable def R48_8 : RegF := fun call e M nx k => e.getK q1 fun v0 => e.getK q9 fun v1 => e.getK q2 fun v2 => VV.onAny v0 (VV.onAny v1 (v_bld [(.i (.ofNat 0)), (.bool false)] [(0, 1, v0), (1, 1, v1)] fun v3 => stV M v2 v3 2 fun M => k e M nx))
noncomputable def R48_9 : RegF := fun call e M nx k => e.getK q0 fun v0 => e.getK q1 fun v1 => VV.onAny v0 (v_nck v0 fun v2 => v_fa v2 2 fun v3 => ldV M v3 1 false fun _ v4 => VV.onAny v1 (v_ixS v4 v1 21 fun v5 => v_fa v5 14 fun v6 => ldV M v6 1 false fun _ v7 => e.setK q8 v7 fun e => k e M nx))
noncomputable def R48_10 : RegF := fun call e M nx k => e.getK q0 fun v0 => e.getK q1 fun v1 => (fun M0 => VV.onAny v0 (v_nck v0 fun v2 => v_fa v2 2 fun v3 => ldV M v3 1 false fun bv4 v4 => VV.onAny v1 (VV.onAny v0 (v_nck v0 fun v5 => v_fa v5 2 fun v6 => ldV M v6 1 false fun _ v7 => VV.onAny v1 (v_ixS v7 v1 21 fun v8 => ldV M v8 21 true fun _ v9 => callV call s90 [v9, (.i (.ofNat 1))] M nx fun v10 M nx => v_ixS v4 v1 21 fun v11 => Bool.rec false (stV M v11 v10 21 fun M => k e M nx) (keptB M0 M (bv4 :: []))))))) M
noncomputable def R48_11 : RegF := fun call e M nx k => e.getK q2 fun v0 => v_bld [(.i (.ofNat 0)), (.bool false)] [(0, 1, (.i (.negSucc 0)))] fun v1 => stV M v0 v1 2 fun M => k e M nx
noncomputable def R48_12 : RegF := fun call e M nx k => e.getK q1 fun v0 => VV.onAny v0 (v_lt v0 (.i (.ofNat 0)) fun v1 => e.setK q4 v1 fun e => k e M nx)
noncomputable def R48_13 : RegF := fun call e M nx k => e.getK q0 fun v0 => VV.onAny v0 (callV call s86 [v0] M nx fun v1 M nx => VV.onAny v1 (v_ext v1 0 fun v2 => v_ext v1 1 fun v3 => VV.onAny v2 (VV.onAny v3 (e.setK q3 v2 fun e => e.setK q5 v3 fun e => k e M nx))))
noncomputable def R48_14 : RegF := fun call e M nx k => e.getK q5 fun v0 => VV.onAny v0 (e.setK q6 v0 fun e => k e M nx)
noncomputable def R48_15 : RegF := fun call e M nx k => e.getK q0 fun v0 => VV.onAny v0 (callV call s89 [v0] M nx fun v1 M nx => VV.onAny v1 (e.setK q1 v1 fun e => k e M nx))
noncomputable def R48_16 : RegF := fun call e M nx k => e.getK q0 fun v0 => VV.onAny v0 (VV.onAny v0 (callV call s87 [v0] M nx fun v1 M nx => v_nck v0 fun v2 => v_fa v2 13 fun v3 => stV M v3 v1 5 fun M => k e M nx))
noncomputable def R48_17 : RegF := fun call e M nx k => e.getK q0 fun v0 => e.getK q3 fun v1 => VV.onAny v0 (VV.onAny v1 (callV call s88 [v0, v1] M nx fun v2 M nx => k e M nx))
noncomputable def R48_18 : RegF := fun call e M nx k => e.getK q3 fun v0 => e.getK q2 fun v1 => VV.onAny v0 (v_sub (.i (.negSucc 1)) v0 fun v2 => v_bld [(.i (.ofNat 0)), (.bool false)] [(0, 1, v2)] fun v3 => stV M v1 v3 2 fun M => k e M nx)
noncomputable def S48 : List (P × I) := [(s0, q0), (s3, q1), (s2, q2), (s4, q3), (s13, q4), (s5, q5), (s19, q6), (s39, q7), (s48, q8), (s6, q9)]
noncomputable def G48 : F2 := .mk (fun call e M nx k => R48_0 call e M nx fun e M nx => R48_1 call e M nx fun e M nx => (fun (j0 : En → Mem → P → Bool) => R48_12 call e M nx fun e M nx => (fun (j3 : En → Mem → P → Bool) => e.getK q4 fun v => v.onB fun c => Bool.rec (j3 e M nx) (R48_13 call e M nx fun e M nx => R48_14 call e M nx fun e M nx => e.getK q6 fun v => v.onB fun c => Bool.rec (R48_15 call e M nx fun e M nx => j3 e M nx) (R48_16 call e M nx fun e M nx => R48_17 call e M nx fun e M nx => R48_18 call e M nx fun e M nx => k .r e M nx) c) c) fun e M nx => j0 e M nx) fun e M nx => R48_2 call e M nx fun e M nx => R48_3 call e M nx fun e M nx => e.getK q7 fun v => v.onB fun c => Bool.rec ((fun (j1 : En → Mem → P → Bool) => R48_9 call e M nx fun e M nx => (fun (j2 : En → Mem → P → Bool) => e.getK q8 fun v => v.onB fun c => Bool.rec (j2 e M nx) (R48_10 call e M nx fun e M nx => j2 e M nx) c) fun e M nx => j1 e M nx) fun e M nx => R48_4 call e M nx fun e M nx => R48_5 call e M nx fun e M nx => R48_6 call e M nx fun e M nx => R48_7 call e M nx fun e M nx => R48_8 call e M nx fun e M nx => k .r e M nx) (R48_11 call e M nx fun e M nx => k .r e M nx) c) [.c q2 2 true] [q0]
noncomputable def R49_0 : RegF := fun call e M nx k => VV.onAny (.bool false) (e.setK q2 (.bool false) fun e => k e M nx)
noncomputable def R49_1 : RegF := fun call e M nx k => e.getK q0 fun v0 => e.getK q1 fun v1 => VV.onAny v0 (VV.onAny v1 (callV call s84 [v0, v1] M nx fun v2 M nx => v_le (.i (.ofNat 0)) v2 fun v3 => VV.onAny v3 (e.setK q2 v3 fun e => k e M nx)))
noncomputable def S49 : List (P × I) := [(s0, q0), (s1, q1), (s4, q2)]
noncomputable def G49 : F2 := .mk (fun call e M nx k => R49_0 call e M nx fun e M nx => R49_1 call e M nx fun e M nx => k .r e M nx) [.t q2] [q0, q1]
noncomputable def R50_0 : RegF := fun call e M nx k => e.getK q0 fun v0 => bxV 113 v0 M nx fun v1 M nx => VV.onAny (.bool false) (e.setK q1 v1 fun e => e.setK q2 (.bool false) fun e => k e M nx)
noncomputable def R50_1 : RegF := fun call e M nx k => e.getK q1 fun v0 => v_fa v0 14 fun v1 => ldV M v1 1 false fun _ v2 => VV.onAny v2 (e.setK q2 v2 fun e => k e M nx)
noncomputable def S50 : List (P × I) := [(s0, q0), (s1, q1), (s2, q2)]
noncomputable def G50 : F2 := .mk (fun call e M nx k => R50_0 call e M nx fun e M nx => R50_1 call e M nx fun e M nx => k .r e M nx) [.t q2] [q0]
noncomputable def R51_0 : RegF := fun call e M nx k => e.getK q0 fun v0 => VV.onAny v0 (v_nqP true v0 fun v1 => e.setK q2 v1 fun e => k e M nx)
noncomputable def R51_1 : RegF := fun call e M nx k => e.getK q0 fun v0 => e.getK q1 fun v1 => (fun M0 => VV.onAny v0 (VV.onAny v0 (v_nck v0 fun v2 => v_fa v2 1 fun v3 => ldV M v3 1 false fun bv4 v4 => VV.onAny v1 (callV call s95 [v1] M nx fun v5 M nx => v_max v4 v5 fun v6 => v_nck v0 fun v7 => v_fa v7 1 fun v8 => Bool.rec false (stV M v8 v6 1 fun M => k e M nx) (keptB M0 M (bv4 :: [])))))) M
noncomputable def S51 : List (P × I) := [(s0, q0), (s1, q1), (s5, q2)]
noncomputable def G51 : F2 := .mk (fun call e M nx k => R51_0 call e M nx fun e M nx => (fun (j0 : En → Mem → P → Bool) => e.getK q2 fun v => v.onB fun c => Bool.rec (j0 e M nx) (R51_1 call e M nx fun e M nx => j0 e M nx) c) fun e M nx => k .n e M nx) [] [q0, q1]
noncomputable def R52_0 : RegF := fun call e M nx k => VV.onAny (.bool false) (e.setK q4 (.bool false) fun e => k e M nx)
noncomputable def R52_1 : RegF := fun call e M nx k => e.getK q1 fun v0 => VV.onAny v0 (callV call s95 [v0] M nx fun v1 M nx => VV.onAny v1 (e.setK q1 v1 fun e => k e M nx))
noncomputable def R52_2 : RegF := fun call e M nx k => e.getK q0 fun v0 => e.getK q1 fun v1 => (fun M0 => VV.onAny v0 (v_nqP false v0 fun v2 => VV.onAny v2 (gdK v2 false .off M nx (fun j => v_mv v1 fun v => j v M nx) fun v3 M nx => gdK v2 false .off M nx (fun j => v_mv v0 fun v => j v M nx) fun v4 M nx => gdK v2 false .off M nx (fun j => v_nck v4 fun v => j v M nx) fun v5 M nx => gdK v2 false .off M nx (fun j => v_fa v5 1 fun v => j v M nx) fun v6 M nx => gdK v2 false .off M nx (fun j => ldV M v6 1 false fun _ v => j v M nx) fun v7 M nx => gdK v2 false .off M nx (fun j => v_sub v3 v7 fun v => j v M nx) fun v8 M nx => gdK v2 false .off M nx (fun j => v_mv v0 fun v => j v M nx) fun v9 M nx => gdK v2 false .off M nx (fun j => v_nck v9 fun v => j v M nx) fun v10 M nx => gdK v2 false .off M nx (fun j => v_fa v10 0 fun v => j v M nx) fun v11 M nx => gdK v2 false .off M nx (fun j => ldV M v11 1 false fun _ v => j v M nx) fun v12 M nx => gdK v2 false .off M nx (fun j => v_lt v8 v12 fun v => j v M nx) fun v13 M nx => v_pick v2 (.bool true) v13 fun v14 => Bool.rec false (e.setK q2 v14 fun e => k e M nx) (keptB M0 M [])))) M
noncomputable def R52_3 : RegF := fun call e M nx k => e.getK q0 fun v0 => VV.onAny v0 (v_mkf s51 [v0] [] fun v1 => VV.onAny v1 (e.setK q3 v1 fun e => k e M nx))
noncomputable def R52_4 : RegF := fun call e M nx k => e.getK q3 fun v0 => e.getK q1 fun v1 => VV.onAny v0 (VV.onAny v1 (cvV call v0 [v1] M nx fun v2 M nx => k e M nx))
noncomputable def R52_5 : RegF := fun call e M nx k => e.getK q0 fun v0 => e.getK q1 fun v1 => VV.onAny v0 (VV.onAny v0 (v_nck v0 fun v2 => v_fa v2 2 fun v3 => ldV M v3 1 false fun _ v4 => VV.onAny v1 (bslV 3 1 1 [(.i (.ofNat 0))] [(0, 1, v1)] M nx fun v5 M nx => appV 3 1 8 v4 v5 M nx fun v6 M nx => v_nck v0 fun v7 => v_fa v7 2 fun v8 => stV M v8 v6 1 fun M => k e M nx)))
noncomputable def R52_6 : RegF := fun call e M nx k => VV.onAny (.bool true) (e.setK q4 (.bool true) fun e => k e M nx)
noncomputable def R52_7 : RegF := fun call e M nx k => VV.onAny (.bool false) (e.setK q4 (.bool false) fun e => k e M nx)
noncomputable def S52 : List (P × I) := [(s0, q0), (s1, q1), (s22, q2), (s5, q3), (s4, q4)]
noncomputable def G52 : F2 := .mk (fun call e M nx k => R52_0 call e M nx fun e M nx => R52_1 call e M nx fun e M nx => R52_2 call e M nx fun e M nx => e.getK q2 fun v => v.onB fun c => Bool.rec (R52_3 call e M nx fun e M nx => R52_4 call e M nx fun e M nx => R52_5 call e M nx fun e M nx => R52_6 call e M nx fun e M nx => k .r e M nx) (R52_7 call e M nx fun e M nx => k .r e M nx) c) [.t q4] [q0, q1]
noncomputable def R53_0 : RegF := fun call e M nx k => VV.onAny (.i (.ofNat 0)) (e.setK q7 (.i (.ofNat 0)) fun e => k e M nx)
noncomputable def R53_1 : RegF := fun call e M nx k => VV.onAny (.i (.negSucc 0)) (e.setK q7 (.i (.negSucc 0)) fun e => k e M nx)
noncomputable def R53_2 : RegF := fun call e M nx k => e.getK q0 fun v0 => VV.onAny v0 (v_lenS v0 fun v1 => VV.onAny (.i (.ofNat 0)) (e.setK q4 v1 fun e => e.setK q2 (.i (.ofNat 0)) fun e => k e M nx))
noncomputable def R53_3 : RegF := fun call e M nx k => e.getK q2 fun v0 => e.getK q4 fun v1 => v_lt v0 v1 fun v2 => e.setK q5 v2 fun e => k e M nx
noncomputable def R53_4 : RegF := fun call e M nx k => e.getK q2 fun v0 => VV.onAny v0 (VV.onAny v0 (e.setK q3 v0 fun e => k e M nx))
noncomputable def R53_5 : RegF := fun call e M nx k => e.getK q1 fun v0 => e.getK q0 fun v1 => e.getK q3 fun v2 => VV.onAny v0 (VV.onAny v1 (VV.onAny v2 (v_ixS v1 v2 1 fun v3 => ldV M v3 1 false fun _ v4 => v_eq v0 v4 fun v5 => e.setK q6 v5 fun e => k e M nx)))
noncomputable def R53_6 : RegF := fun call e M nx k => e.getK q2 fun v0 => v_add v0 (.i (.ofNat 1)) fun v1 => VV.onAny v1 (e.setK q2 v1 fun e => k e M nx)
noncomputable def R53_7 : RegF := fun call e M nx k => e.getK q3 fun v0 => VV.onAny v0 (VV.onAny v0 (e.setK q7 v0 fun e => k e M nx))
noncomputable def S53 : List (P × I) := [(s0, q0), (s1, q1), (s8, q2), (s5, q3), (s7, q4), (s9, q5), (s16, q6), (s4, q7)]
noncomputable def G53 : F2 := .mk (fun call e M nx k => R53_0 call e M nx fun e M nx => (fun (j0 : En → Mem → P → Bool) => R53_2 call e M nx fun e M nx => (fun (j1 : En → Mem → P → Bool) => loopK (fun call e M nx k => R53_3 call e M nx fun e M nx => e.getK q5 fun v => v.onB fun c => Bool.rec (k (.x 0) e M nx) (R53_4 call e M nx fun e M nx => R53_5 call e M nx fun e M nx => e.getK q6 fun v => v.onB fun c => Bool.rec (R53_6 call e M nx fun e M nx => k .n e M nx) (R53_7 call e M nx fun e M nx => k .r e M nx) c) c) call e M nx fun ex e M nx => Ex.rec (j1 e M nx) (k .r e M nx) (fun id => Bool.rec (k (.x id) e M nx) (j1 e M nx) (Nat.beq id 0)) ex) fun e M nx => j0 e M nx) fun e M nx => R53_1 call e M nx fun e M nx => k .r e M nx) [.t q7] [q0, q1]
noncomputable def R54_0 : RegF := fun call e M nx k => VV.onAny (.nils) (e.setK q6 (.nils) fun e => k e M nx)
noncomputable def R54_1 : RegF := fun call e M nx k => e.getK q0 fun v0 => e.getK q1 fun v1 => e.getK q2 fun v2 => e.getK q3 fun v3 => VV.onAny v0 (VV.onAny v1 (VV.onAny v2 (VV.onAny v3 (callV call s96 [v0, v1, v2, v3] M nx fun v4 M nx => VV.onAny v4 (e.setK q5 v4 fun e => k e M nx)))))
noncomputable def R54_2 : RegF := fun call e M nx k => e.getK q5 fun v0 => e.getK q6 fun v1 => VV.onAny v0 (v_le (.i (.ofNat 0)) v0 fun v2 => VV.onAny v2 (gdK v2 true .off M nx (fun j => v_mv v1 fun v => j v M nx) fun v3 M nx => gdK v2 true .off M nx (fun j => v_mv v0 fun v => j v M nx) fun v4 M nx => gdK v2 true .no M nx (fun j => callV call s28 [v3, v4] M nx fun v M nx => j v M nx) fun v5 M nx => gdK v2 true .off M nx (fun j => v_not v5 fun v => j v M nx) fun v6 M nx => v_pick v2 v6 (.bool false) fun v7 => e.setK q7 v7 fun e => k e M nx))
noncomputable def R54_3 : RegF := fun call e M nx k => e.getK q6 fun v0 => e.getK q5 fun v1 => VV.onAny v0 (VV.onAny v1 (bslV 3 1 1 [(.i (.ofNat 0))] [(0, 1, v1)] M nx fun v2 M nx => appV 3 1 8 v0 v2 M nx fun v3 M nx => VV.onAny v3 (e.setK q6 v3 fun e => k e M nx)))
noncomputable def R54_4 : RegF := fun call e M nx k => e.getK q4 fun v0 => e.getK q5 fun v1 => VV.onAny v0 (VV.onAny v1 (cvV call v0 [v1] M nx fun v2 M nx => k e M nx))
noncomputable def R54_5 : RegF := fun call e M nx k => e.getK q0 fun v0 => e.getK q1 fun v1 => e.getK q2 fun v2 => e.getK q5 fun v3 => VV.onAny v0 (VV.onAny v1 (VV.onAny v2 (VV.onAny v3 (callV call s96 [v0, v1, v2, v3] M nx fun v4 M nx => VV.onAny v4 (e.setK q5 v4 fun e => k e M nx)))))
noncomputable def S54 : List (P × I) := [(s0, q0), (s1, q1), (s2, q2), (s3, q3), (s4, q4), (s11, q5), (s10, q6), (s24, q7)]
noncomputable def G54 : F2 := .mk (fun call e M nx k => R54_0 call e M nx fun e M nx => R54_1 call e M nx fun e M nx => (fun (j0 : En → Mem → P → Bool) => loopK (fun call e M nx k => R54_2 call e M nx fun e M nx => e.getK q7 fun v => v.onB fun c => Bool.rec (k (.x 0) e M nx) (R54_3 call e M nx fun e M nx => R54_4 call e M nx fun e M nx => R54_5 call e M nx fun e M nx => k .n e M nx) c) call e M nx fun ex e M nx => Ex.rec (j0 e M nx) (k .r e M nx) (fun id => Bool.rec (k (.x id) e M nx) (j0 e M nx) (Nat.beq id 0)) ex) fun e M nx => k .n e M nx) [] [q0, q1, q2, q3, q4]
noncomputable def R56_0 : RegF := fun call e M nx k => VV.onAny (.bool false) (e.setK q3 (.bool false) fun e => k e M nx)
noncomputable def R56_1 : RegF := fun call e M nx k => e.getK q0 fun v0 => e.getK q1 fun v1 => e.getK q2 fun v2 => VV.onAny v0 (VV.onAny v1 (v_le v1 v0 fun v3 => VV.onAny v3 (gdK v3 true .off M nx (fun j => v_mv v0 fun v => j v M nx) fun v4 M nx => gdK v3 true .off M nx (fun j => v_mv v2 fun v => j v M nx) fun v5 M nx => gdK v3 true .off M nx (fun j => v_le v4 v5 fun v => j v M nx) fun v6 M nx => v_pick v3 v6 (.bool false) fun v7 => VV.onAny v7 (e.setK q3 v7 fun e => k e M nx))))
noncomputable def S56 : List (P × I) := [(s0, q0), (s1, q1), (s2, q2), (s6, q3)]
noncomputable def G56 : F2 := .mk (fun call e M nx k => R56_0 call e M nx fun e M nx => R56_1 call e M nx fun e M nx => k .r e M nx) [.t q3] [q0, q1, q2]
noncomputable def R57_0 : RegF := fun call e M nx k => e.getK q0 fun v0 => e.getK q1 fun v1 => bxV 28 v0 M nx fun v2 M nx => bxV 32 v1 M nx fun v3 M nx => VV.onAny (.bool false) (e.setK q3 v2 fun e => e.setK q2 v3 fun e => e.setK q7 (.bool false) fun e => k e M nx)
noncomputable def R57_1 : RegF := fun call e M nx k => e.getK q2 fun v0 => v_fa v0 0 fun v1 => ldV M v1 1 false fun _ v2 => v_eq v2 (.i (.ofNat 2)) fun v3 => VV.onAny v3 (gdK v3 true .off M nx (fun j => v_fa v0 1 fun v => j v M nx) fun v4 M nx => gdK v3 true .off M nx (fun j => ldV M v4 1 false fun _ v => j v M nx) fun v5 M nx => gdK v3 true .no M nx (fun j => callV call s56 [v5, (.i (.ofNat 0)), (.i (.ofNat 63))] M nx fun v M nx => j v M nx) fun v6 M nx => v_pick v3 v6 (.bool false) fun v7 => VV.onAny v7 (gdK v7 false .off M nx (fun j => v_fa v0 0 fun v => j v M nx) fun v8 M nx => gdK v7 false .off M nx (fun j => ldV M v8 1 false fun _ v => j v M nx) fun v9 M nx => gdK v7 false .off M nx (fun j => v_eq v9 (.i (.ofNat 1)) fun v => j v M nx) fun v10 M nx => gdK v7 false .off M nx (fun j => v_mv v10 fun v => j v M nx) fun v11 M nx => gdK v11 true .off M nx (fun j => v_fa v0 1 fun v => j v M nx) fun v12 M nx => gdK v11 true .off M nx (fun j => ldV M v12 1 false fun _ v => j v M nx) fun v13 M nx => gdK v11 true .off M nx (fun j => v_eq v13 (.i (.ofNat 0)) fun v => j v M nx) fun v14 M nx => gdK v7 false .off M nx (fun j => v_pick v11 v14 (.bool false) fun v => j v M nx) fun v15 M nx => v_pick v7 (.bool true) v15 fun v16 => VV.onAny v16 (e.setK q4 v16 fun e => k e M nx)))
noncomputable def R57_2 : RegF := fun call e M nx k => e.getK q2 fun v0 => v_fa v0 2 fun v1 => ldV M v1 1 false fun _ v2 => callV call s56 [v2, (.i (.ofNat 1)), (.i (.ofNat 1000000))] M nx fun v3 M nx => VV.onAny v3 (gdK v3 true .off M nx (fun j => v_fa v0 3 fun v => j v M nx) fun v4 M nx => gdK v3 true .off M nx (fun j => ldV M v4 1 false fun _ v => j v M nx) fun v5 M nx => gdK v3 true .off M nx (fun j => v_fa v0 2 fun v => j v M nx) fun v6 M nx => gdK v3 true .off M nx (fun j => ldV M v6 1 false fun _ v => j v M nx) fun v7 M nx => gdK v3 true .no M nx (fun j => callV call s56 [v5, (.i (.ofNat 1)), v7] M nx fun v M nx => j v M nx) fun v8 M nx => v_pick v3 v8 (.bool false) fun v9 => VV.onAny v9 (gdK v9 true .off M nx (fun j => v_fa v0 4 fun v => j v M nx) fun v10 M nx => gdK v9 true .off M nx (fun j => ldV M v10 1 false fun _ v => j v M nx) fun v11 M nx => gdK v9 true .off M nx (fun j => v_fa v0 3 fun v => j v M nx) fun v12 M nx => gdK v9 true .off M nx (fun j => ldV M v12 1 false fun _ v => j v M nx) fun v13 M nx => gdK v9 true .no M nx (fun j => callV call s56 [v11, (.i (.ofNat 1)), v13] M nx fun v M nx => j v M nx) fun v14 M nx => v_pick v9 v14 (.bool false) fun v15 => VV.onAny v15 (e.setK q5 v15 fun e => k e M nx)))
noncomputable def R57_3 : RegF := fun call e M nx k => e.getK q2 fun v0 => e.getK q3 fun v1 => v_fa v0 6 fun v2 => ldV M v2 1 false fun _ v3 => v_lenS v3 fun v4 => v_le v4 (.i (.ofNat 6)) fun v5 => VV.onAny v5 (gdK v5 true .off M nx (fun j => v_fa v0 6 fun v => j v M nx) fun v6 M nx => gdK v5 true .off M nx (fun j => ldV M v6 1 false fun _ v => j v M nx) fun v7 M nx => gdK v5 true .off M nx (fun j => v_mkf s97 [] [v1] fun v => j v M nx) fun v8 M nx => gdK v5 true .no M nx (fun j => callV call s58 [v7, v8] M nx fun v M nx => j v M nx) fun v9 M nx => gdK v5 true .off M nx (fun j => v_not v9 fun v => j v M nx) fun v10 M nx => v_pick v5 v10 (.bool false) fun v11 => VV.onAny v11 (e.setK q6 v11 fun e => k e M nx))
noncomputable def R57_4 : RegF := fun call e M nx k => e.getK q4 fun v0 => e.getK q5 fun v1 => e.getK q6 fun v2 => e.getK q2 fun v3 => e.getK q3 fun v4 => VV.onAny v0 (VV.onAny v0 (gdK v0 true .off M nx (fun j => v_mv v1 fun v => j v M nx) fun v5 M nx => v_pick v0 v5 (.bool false) fun v6 => VV.onAny v6 (gdK v6 true .off M nx (fun j => v_mv v2 fun v => j v M nx) fun v7 M nx => v_pick v6 v7 (.bool false) fun v8 => VV.onAny v8 (gdK v8 true .off M nx (fun j => v_fa v3 5 fun v => j v M nx) fun v9 M nx => gdK v8 true .off M nx (fun j => ldV M v9 1 false fun _ v => j v M nx) fun v10 M nx => gdK v8 true .off M nx (fun j => v_fa v4 3 fun v => j v M nx) fun v11 M nx => gdK v8 true .off M nx (fun j => ldV M v11 1 false fun _ v => j v M nx) fun v12 M nx => gdK v8 true .off M nx (fun j => v_lenS v12 fun v => j v M nx) fun v13 M nx => gdK v8 true .off M nx (fun j => v_sub v13 (.i (.ofNat 1)) fun v => j v M nx) fun v14 M nx => gdK v8 true .no M nx (fun j => callV call s56 [v10, (.i (.negSucc 0)), v14] M nx fun v M nx => j v M nx) fun v15 M nx => v_pick v8 v15 (.bool false) fun v16 => VV.onAny v16 (gdK v16 true .off M nx (fun j => v_fa v3 7 fun v => j v M nx) fun v17 M nx => gdK v16 true .off M nx (fun j => ldV M v17 1 false fun _ v => j v M nx) fun v18 M nx => gdK v16 true .off M nx (fun j => v_lenS v18 fun v => j v M nx) fun v19 M nx => gdK v16 true .off M nx (fun j => v_le v19 (.i (.ofNat 40)) fun v => j v M nx) fun v20 M nx => v_pick v16 v20 (.bool false) fun v21 => VV.onAny v21 (e.setK q7 v21 fun e => k e M nx))))))
noncomputable def S57 : List (P × I) := [(s0, q0), (s1, q1), (s3, q2), (s2, q3), (s5, q4), (s6, q5), (s7, q6), (s4, q7)]
noncomputable def G57 : F2 := .mk (fun call e M nx k => R57_0 call e M nx fun e M nx => R57_1 call e M nx fun e M nx => R57_2 call e M nx fun e M nx => R57_3 call e M nx fun e M nx => R57_4 call e M nx fun e M nx => k .r e M nx) [.t q7] [q0, q1]
noncomputable def R58_0 : RegF := fun call e M nx k => VV.onAny (.bool false) (e.setK q2 (.bool false) fun e => k e M nx)
noncomputable def R58_1 : RegF := fun call e M nx k => e.getK q0 fun v0 => e.getK q1 fun v1 => VV.onAny v0 (VV.onAny v1 (callV call s98 [v0, v1] M nx fun v2 M nx => v_le (.i (.ofNat 0)) v2 fun v3 => VV.onAny v3 (e.setK q2 v3 fun e => k e M nx)))
noncomputable def S58 : List (P × I) := [(s0, q0), (s1, q1), (s4, q2)]
noncomputable def G58 : F2 := .mk (fun call e M nx k => R58_0 call e M nx fun e M nx => R58_1 call e M nx fun e M nx => k .r e M nx) [.t q2] [q0, q1]
noncomputable def R60_0 : RegF := fun call e M nx k => e.getK q1 fun v0 => bxV 110 v0 M nx fun v1 M nx => alV 113 (rep 9 (.i (.ofNat 0)) ++ [(.bool false), (.i (.ofNat 0)), (.i (.ofNat 0)), (.i (.ofNat 0)), (.str []), (.bool false), (.i (.ofNat 0)), (.i (.ofNat 0)), (.i (.ofNat 0)), (.i (.ofNat 0)), (.i (.ofNat 0)), .nils]) M nx fun v2 M nx => e.setK q4 v1 fun e => e.setK q3 v2 fun e => k e M nx
noncomputable def R60_1 : RegF := fun call e M nx k => e.getK q0 fun v0 => e.getK q4 fun v1 => e.getK q2 fun v2 => e.getK q3 fun v3 => VV.onAny v0 (ldV M v1 3 true fun _ v4 => VV.onAny v2 (v_bld (rep 9 (.i (.ofNat 0)) ++ [(.bool false), (.i (.ofNat 0)), (.i (.ofNat 0)), (.i (.ofNat 0)), (.str []), (.bool false), (.i (.ofNat 0)), (.i (.ofNat 0)), (.i (.ofNat 0)), (.i (.ofNat 0)), (.i (.ofNat 0)), .nils]) [(0, 1, v0), (1, 1, (.i (.negSucc 0))), (18, 1, (.i (.negSucc 0))), (6, 1, (.i (.negSucc 0))), (19, 1, (.i (.negSucc 0))), (2, 3, v4), (5, 1, v2)] fun v5 => stV M v3 v5 21 fun M => k e M nx))
noncomputable def S60 : List (P × I) := [(s0, q0), (s1, q1), (s2, q2), (s6, q3), (s4, q4)]
noncomputable def G60 : F2 := .mk (fun call e M nx k => R60_0 call e M nx fun e M nx => R60_1 call e M nx fun e M nx => k .r e M nx) [.c q3 21 true] [q0, q1, q2]
noncomputable def R61_0 : RegF := fun call e M nx k => e.getK q0 fun v0 => bxV 54 v0 M nx fun v1 M nx => VV.onAny (.bool false) (e.setK q1 v1 fun e => e.setK q6 (.bool false) fun e => k e M nx)
noncomputable def R61_1 : RegF := fun call e M nx k => e.getK q1 fun v0 => v_fa v0 0 fun v1 => ldV M v1 1 false fun _ v2 => callV call s99 [v2] M nx fun v3 M nx => VV.onAny v3 (e.setK q2 v3 fun e => k e M nx)
noncomputable def R61_2 : RegF := fun call e M nx k => e.getK q2 fun v0 => VV.onAny v0 (v_nqF false v0 fun v1 => e.setK q4 v1 fun e => k e M nx)
noncomputable def R61_3 : RegF := fun call e M nx k => e.getK q2 fun v0 => e.getK q1 fun v1 => VV.onAny v0 (ldV M v1 9 true fun _ v2 => cvV call v0 [v2] M nx fun v3 M nx => VV.onAny v3 (v_ext v3 0 fun v4 => v_ext v3 1 fun v5 => alV 54 [(.i (.ofNat 0)), (.i (.ofNat 0)), (.i (.ofNat 0)), (.i (.ofNat 0)), (.i (.ofNat 0)), (.i (.ofNat 0)), (.i (.ofNat 0)), (.str []), (.str [])] M nx fun v6 M nx => stV M v6 v4 9 fun M => VV.onAny v5 (e.setK q3 v6 fun e => e.setK q5 v5 fun e => k e M nx)))
noncomputable def R61_4 : RegF := fun call e M nx k => e.getK q1 fun v0 => e.getK q3 fun v1 => v_fa v0 0 fun v2 => ldV M v2 1 false fun _ v3 => v_fa v1 0 fun v4 => stV M v4 v3 1 fun M => k e M nx
noncomputable def R61_5 : RegF := fun call e M nx k => e.getK q5 fun v0 => e.getK q3 fun v1 => e.getK q1 fun v2 => VV.onAny v0 (VV.onAny v0 (gdK v0 true .off M nx (fun j => ldV M v1 9 true fun _ v => j v M nx) fun v3 M nx => gdK v0 true .off M nx (fun j => ldV M v2 9 true fun _ v => j v M nx) fun v4 M nx => gdK v0 true .off M nx (fun j => v_aeq false [(0, .i), (1, .i), (2, .i), (3, .i), (4, .i), (5, .i), (6, .i), (7, .s), (8, .s)] v3 v4 fun v => j v M nx) fun v5 M nx => v_pick v0 v5 (.bool false) fun v6 => VV.onAny v6 (e.setK q6 v6 fun e => k e M nx)))
noncomputable def R61_6 : RegF := fun call e M nx k => VV.onAny (.bool false) (e.setK q6 (.bool false) fun e => k e M nx)
noncomputable def S61 : List (P × I) := [(s0, q0), (s1, q1), (s3, q2), (s4, q3), (s10, q4), (s5, q5), (s2, q6)]
noncomputable def G61 : F2 := .mk (fun call e M nx k => R61_0 call e M nx fun e M nx => R61_1 call e M nx fun e M nx => R61_2 call e M nx fun e M nx => e.getK q4 fun v => v.onB fun c => Bool.rec (R61_3 call e M nx fun e M nx => R61_4 call e M nx fun e M nx => R61_5 call e M nx fun e M nx => k .r e M nx) (R61_6 call e M nx fun e M nx => k .r e M nx) c) [.t q6] [q0]
noncomputable def R62_0 : RegF := fun call e M nx k => VV.onAny (.bool false) (e.setK q2 (.bool false) fun e => k e M nx)
noncomputable def R62_1 : RegF := fun call e M nx k => e.getK q0 fun v0 => e.getK q1 fun v1 => VV.onAny v0 (VV.onAny v1 (callV call s100 [v0, v1] M nx fun v2 M nx => v_le (.i (.ofNat 0)) v2 fun v3 => VV.onAny v3 (e.setK q2 v3 fun e => k e M nx)))
noncomputable def S62 : List (P × I) := [(s0, q0), (s1, q1), (s4, q2)]
noncomputable def G62 : F2 := .mk (fun call e M nx k => R62_0 call e M nx fun e M nx => R62_1 call e M nx fun e M nx => k .r e M nx) [.t q2] [q0, q1]
noncomputable def R63_0 : RegF := fun call e M nx k => e.getK q0 fun v0 => bxV 77 v0 M nx fun v1 M nx => VV.onAny (.bool false) (e.setK q1 v1 fun e => e.setK q2 (.bool false) fun e => k e M nx)
noncomputable def R63_1 : RegF := fun call e M nx k => e.getK q1 fun v0 => ldV M v0 2 true fun _ v1 => callV call s64 [v1] M nx fun v2 M nx => v_not v2 fun v3 => VV.onAny v3 (e.setK q2 v3 fun e => k e M nx)
noncomputable def S63 : List (P × I) := [(s0, q0), (s1, q1), (s2, q2)]
noncomputable def G63 : F2 := .mk (fun call e M nx k => R63_0 call e M nx fun e M nx => R63_1 call e M nx fun e M nx => k .r e M nx) [.t q2] [q0]
noncomputable def R64_0 : RegF := fun call e M nx k => e.getK q0 fun v0 => bxV 77 v0 M nx fun v1 M nx => VV.onAny (.bool false) (e.setK q1 v1 fun e => e.setK q2 (.bool false) fun e => k e M nx)
noncomputable def R64_1 : RegF := fun call e M nx k => e.getK q1 fun v0 => v_fa v0 0 fun v1 => ldV M v1 1 false fun _ v2 => v_le (.i (.ofNat 1)) v2 fun v3 => VV.onAny v3 (gdK v3 true .off M nx (fun j => v_fa v0 0 fun v => j v M nx) fun v4 M nx => gdK v3 true .off M nx (fun j => ldV M v4 1 false fun _ v => j v M nx) fun v5 M nx => gdK v3 true .off M nx (fun j => v_le v5 (.i (.ofNat 100)) fun v => j v M nx) fun v6 M nx => v_pick v3 v6 (.bool false) fun v7 => VV.onAny v7 (gdK v7 true .off M nx (fun j => v_fa v0 1 fun v => j v M nx) fun v8 M nx => gdK v7 true .off M nx (fun j => ldV M v8 1 false fun _ v => j v M nx) fun v9 M nx => gdK v7 true .off M nx (fun j => v_le (.i (.ofNat 1)) v9 fun v => j v M nx) fun v10 M nx => v_pick v7 v10 (.bool false) fun v11 => VV.onAny v11 (gdK v11 true .off M nx (fun j => v_fa v0 1 fun v => j v M nx) fun v12 M nx => gdK v11 true .off M nx (fun j => ldV M v12 1 false fun _ v => j v M nx) fun v13 M nx => gdK v11 true .off M nx (fun j => v_le v13 (.i (.ofNat 1000)) fun v => j v M nx) fun v14 M nx => v_pick v11 v14 (.bool false) fun v15 => VV.onAny v15 (e.setK q2 v15 fun e => k e M nx))))
noncomputable def S64 : List (P × I) := [(s0, q0), (s1, q1), (s2, q2)]
noncomputable def G64 : F2 := .mk (fun call e M nx k => R64_0 call e M nx fun e M nx => R64_1 call e M nx fun e M nx => k .r e M nx) [.t q2] [q0]
noncomputable def R65_0 : RegF := fun call e M nx k => VV.onAny (.nils) (e.setK q2 (.nils) fun e => k e M nx)
noncomputable def R65_1 : RegF := fun call e M nx k => e.getK q0 fun v0 => VV.onAny v0 (v_nqS false v0 fun v1 => e.setK q1 v1 fun e => k e M nx)
noncomputable def R65_2 : RegF := fun call e M nx k => e.getK q0 fun v0 => bslV 77 2 0 [] [] M nx fun v1 M nx => VV.onAny v0 (appV 77 2 16 v1 v0 M nx fun v2 M nx => VV.onAny v2 (e.setK q2 v2 fun e => k e M nx))
noncomputable def R65_3 : RegF := fun call e M nx k => VV.onAny (.nils) (e.setK q2 (.nils) fun e => k e M nx)
noncomputable def S65 : List (P × I) := [(s0, q0), (s4, q1), (s2, q2)]
noncomputable def G65 : F2 := .mk (fun call e M nx k => R65_0 call e M nx fun e M nx => R65_1 call e M nx fun e M nx => e.getK q1 fun v => v.onB fun c => Bool.rec (R65_2 call e M nx fun e M nx => k .r e M nx) (R65_3 call e M nx fun e M nx => k .r e M nx) c) [.t q2] [q0]
noncomputable def R66_0 : RegF := fun call e M nx k => VV.onAny (.nil) (VV.onAny (.i (.ofNat 0)) (e.setK q2 (.nil) fun e => e.setK q3 (.i (.ofNat 0)) fun e => k e M nx))
noncomputable def R66_1 : RegF := fun call e M nx k => e.getK q0 fun v0 => VV.onAny v0 (v_lt v0 (.i (.ofNat 1)) fun v1 => VV.onAny v1 (gdK v1 false .off M nx (fun j => v_mv v0 fun v => j v M nx) fun v2 M nx => gdK v1 false .off M nx (fun j => v_lt (.i (.ofNat 64)) v2 fun v => j v M nx) fun v3 M nx => v_pick v1 (.bool true) v3 fun v4 => e.setK q1 v4 fun e => k e M nx))
noncomputable def R66_2 : RegF := fun call e M nx k => e.getK q0 fun v0 => (fun M0 => VV.onAny v0 (mksV 272 64 64 (rep 64 (.int .u8 (.ofNat 0))) v0 v0 M nx fun v1 M nx => VV.onAny v0 (mksV 3 1 8 [(.i (.ofNat 0))] v0 v0 M nx fun v2 M nx => v_bld [.nils, .nils, .nils, (.i (.ofNat 0))] [(0, 1, v1), (1, 1, v2)] fun v3 => bxV 214 v3 M nx fun v4 M nx => VV.onAny v4 (VV.onAny (.i (.ofNat 0)) (Bool.rec false (e.setK q2 v4 fun e => e.setK q3 (.i (.ofNat 0)) fun e => k e M nx) (keptB M0 M [])))))) M
noncomputable def R66_3 : RegF := fun call e M nx k => VV.onAny (.nil) (VV.onAny (.i (.ofNat 2)) (e.setK q2 (.nil) fun e => e.setK q3 (.i (.ofNat 2)) fun e => k e M nx))
noncomputable def S66 : List (P × I) := [(s0, q0), (s9, q1), (s2, q2), (s3, q3)]
noncomputable def G66 : F2 := .mk (fun call e M nx k => R66_0 call e M nx fun e M nx => R66_1 call e M nx fun e M nx => e.getK q1 fun v => v.onB fun c => Bool.rec (R66_2 call e M nx fun e M nx => k .r e M nx) (R66_3 call e M nx fun e M nx => k .r e M nx) c) [.t q2, .t q3] [q0]
noncomputable def R67_0 : RegF := fun call e M nx k => VV.onAny (.nil) (e.setK q2 (.nil) fun e => k e M nx)
noncomputable def R67_1 : RegF := fun call e M nx k => e.getK q0 fun v0 => VV.onAny v0 (callV call s101 [v0] M nx fun v1 M nx => VV.onAny v1 (e.setK q1 v1 fun e => k e M nx))
noncomputable def R67_2 : RegF := fun call e M nx k => e.getK q1 fun v0 => VV.onAny v0 (VV.onAny v0 (callV call s102 [v0] M nx fun v1 M nx => v_bld [.nil, .nil] [(0, 1, v0), (1, 1, v1)] fun v2 => bxV 220 v2 M nx fun v3 M nx => VV.onAny v3 (e.setK q2 v3 fun e => k e M nx)))
noncomputable def S67 : List (P × I) := [(s0, q0), (s3, q1), (s2, q2)]
noncomputable def G67 : F2 := .mk (fun call e M nx k => R67_0 call e M nx fun e M nx => R67_1 call e M nx fun e M nx => R67_2 call e M nx fun e M nx => k .r e M nx) [.t q2] [q0]
noncomputable def R68_0 : RegF := fun call e M nx k => VV.onAny (.nil) (e.setK q2 (.nil) fun e => k e M nx)
noncomputable def R68_1 : RegF := fun call e M nx k => e.getK q0 fun v0 => e.getK q1 fun v1 => VV.onAny v0 (VV.onAny v1 (mkmV M nx fun v2 M nx => v_bld [.nil, .nil, .nilm] [(0, 1, v0), (1, 1, v1), (2, 1, v2)] fun v3 => bxV 223 v3 M nx fun v4 M nx => VV.onAny v4 (e.setK q2 v4 fun e => k e M nx)))
noncomputable def S68 : List (P × I) := [(s0, q0), (s1, q1), (s4, q2)]
noncomputable def G68 : F2 := .mk (fun call e M nx k => R68_0 call e M nx fun e M nx => R68_1 call e M nx fun e M nx => k .r e M nx) [.t q2] [q0, q1]
noncomputable def R69_0 : RegF := fun call e M nx k => VV.onAny (.nil) (e.setK q1 (.nil) fun e => k e M nx)
noncomputable def R69_1 : RegF := fun call e M nx k => e.getK q0 fun v0 => VV.onAny v0 (v_bld [.nil, .nil, .nil, .nil, .nil] [(0, 1, v0)] fun v1 => bxV 227 v1 M nx fun v2 M nx => VV.onAny v2 (e.setK q1 v2 fun e => k e M nx))
noncomputable def S69 : List (P × I) := [(s0, q0), (s2, q1)]
noncomputable def G69 : F2 := .mk (fun call e M nx k => R69_0 call e M nx fun e M nx => R69_1 call e M nx fun e M nx => k .r e M nx) [.t q1] [q0]
noncomputable def R70_0 : RegF := fun call e M nx k => VV.onAny (.nil) (e.setK q1 (.nil) fun e => k e M nx)
noncomputable def R70_1 : RegF := fun call e M nx k => e.getK q0 fun v0 => VV.onAny v0 (v_mkf s103 [v0] [] fun v1 => VV.onAny v0 (v_mkf s104 [v0] [] fun v2 => mkmV M nx fun v3 M nx => v_bld [.nilf, .nilf, .nilm] [(0, 1, v1), (1, 1, v2), (2, 1, v3)] fun v4 => bxV 231 v4 M nx fun v5 M nx => VV.onAny v5 (e.setK q1 v5 fun e => k e M nx)))
noncomputable def S70 : List (P × I) := [(s0, q0), (s2, q1)]
noncomputable def G70 : F2 := .mk (fun call e M nx k => R70_0 call e M nx fun e M nx => R70_1 call e M nx fun e M nx => k .r e M nx) [.t q1] [q0]
noncomputable def R71_0 : RegF := fun call e M nx k => VV.onAny (.nil) (e.setK q0 (.nil) fun e => k e M nx)
noncomputable def R71_1 : RegF := fun call e M nx k => mkmV M nx fun v0 M nx => v_bld [.nilm] [(0, 1, v0)] fun v1 => bxV 234 v1 M nx fun v2 M nx => VV.onAny v2 (e.setK q0 v2 fun e => k e M nx)
noncomputable def S71 : List (P × I) := [(s0, q0)]
noncomputable def G71 : F2 := .mk (fun call e M nx k => R71_0 call e M nx fun e M nx => R71_1 call e M nx fun e M nx => k .r e M nx) [.t q0] []
noncomputable def R72_0 : RegF := fun call e M nx k => VV.onAny (.i (.ofNat 0)) (e.setK q8 (.i (.ofNat 0)) fun e => k e M nx)
noncomputable def R72_1 : RegF := fun call e M nx k => e.getK q0 fun v0 => VV.onAny v0 (v_nqP false v0 fun v1 => e.setK q3 v1 fun e => k e M nx)
noncomputable def R72_2 : RegF := fun call e M nx k => e.getK q0 fun v0 => e.getK q1 fun v1 => VV.onAny v0 (v_nck v0 fun v2 => v_fa v2 0 fun v3 => ldV M v3 1 false fun _ v4 => VV.onAny v1 (lkuV (.agg [(.i (.ofNat 0)), (.i (.ofNat 0)), (.bool false)]) true v4 v1 M fun v5 => VV.onAny v5 (v_ext v5 0 fun v6 => v_ext v5 1 fun v7 => alV 236 [(.i (.ofNat 0)), (.i (.ofNat 0)), (.bool false)] M nx fun v8 M nx => stV M v8 v6 3 fun M => VV.onAny v7 (e.setK q5 v7 fun e => k e M nx))))
noncomputable def R72_3 : RegF := fun call e M nx k => e.getK q1 fun v0 => VV.onAny v0 (v_lt v0 (.i (.ofNat 0)) fun v1 => VV.onAny v1 (e.setK q4 v1 fun e => k e M nx))
noncomputable def R72_4 : RegF := fun call e M nx k => e.getK q5 fun v0 => VV.onAny v0 (VV.onAny v0 (e.setK q6 v0 fun e => k e M nx))
noncomputable def R72_5 : RegF := fun call e M nx k => e.getK q2 fun v0 => e.getK q0 fun v1 => VV.onAny v0 (v_ne v0 (.i (.negSucc 0)) fun v2 => VV.onAny v2 (gdK v2 true .off M nx (fun j => v_mv v1 fun v => j v M nx) fun v3 M nx => gdK v2 true .off M nx (fun j => v_mv v0 fun v => j v M nx) fun v4 M nx => gdK v2 true .no M nx (fun j => callV call s105 [v3, v4] M nx fun v M nx => j v M nx) fun v5 M nx => gdK v2 true .off M nx (fun j => v_not v5 fun v => j v M nx) fun v6 M nx => v_pick v2 v6 (.bool false) fun v7 => VV.onAny v7 (e.setK q7 v7 fun e => k e M nx)))
noncomputable def R72_6 : RegF := fun call e M nx k => e.getK q0 fun v0 => e.getK q1 fun v1 => e.getK q2 fun v2 => VV.onAny v0 (v_nck v0 fun v3 => v_fa v3 0 fun v4 => ldV M v4 1 false fun _ v5 => VV.onAny v1 (VV.onAny v2 (v_bld [(.i (.ofNat 0)), (.i (.ofNat 0)), (.bool false)] [(0, 1, v2)] fun v6 => mupV v5 v1 v6 M fun M => k e M nx)))
noncomputable def R72_7 : RegF := fun call e M nx k => VV.onAny (.i (.ofNat 0)) (e.setK q8 (.i (.ofNat 0)) fun e => k e M nx)
noncomputable def R72_8 : RegF := fun call e M nx k => VV.onAny (.i (.ofNat 4)) (e.setK q8 (.i (.ofNat 4)) fun e => k e M nx)
noncomputable def R72_9 : RegF := fun call e M nx k => VV.onAny (.i (.ofNat 5)) (e.setK q8 (.i (.ofNat 5)) fun e => k e M nx)
noncomputable def R72_10 : RegF := fun call e M nx k => VV.onAny (.i (.ofNat 2)) (e.setK q8 (.i (.ofNat 2)) fun e => k e M nx)
noncomputable def R72_11 : RegF := fun call e M nx k => VV.onAny (.i (.ofNat 1)) (e.setK q8 (.i (.ofNat 1)) fun e => k e M nx)
noncomputable def S72 : List (P × I) := [(s0, q0), (s1, q1), (s2, q2), (s10, q3), (s20, q4), (s8, q5), (s23, q6), (s25, q7), (s6, q8)]
noncomputable def G72 : F2 := .mk (fun call e M nx k => R72_0 call e M nx fun e M nx => R72_1 call e M nx fun e M nx => e.getK q3 fun v => v.onB fun c => Bool.rec (R72_2 call e M nx fun e M nx => R72_3 call e M nx fun e M nx => e.getK q4 fun v => v.onB fun c => Bool.rec (R72_4 call e M nx fun e M nx => e.getK q6 fun v => v.onB fun c => Bool.rec (R72_5 call e M nx fun e M nx => e.getK q7 fun v => v.onB fun c => Bool.rec (R72_6 call e M nx fun e M nx => R72_7 call e M nx fun e M nx => k .r e M nx) (R72_8 call e M nx fun e M nx => k .r e M nx) c) (R72_9 call e M nx fun e M nx => k .r e M nx) c) (R72_10 call e M nx fun e M nx => k .r e M nx) c) (R72_11 call e M nx fun e M nx => k .r e M nx) c) [.t q8] [q0, q1, q2]
noncomputable def R73_0 : RegF := fun call e M nx k => VV.onAny (.i (.ofNat 0)) (e.setK q5 (.i (.ofNat 0)) fun e => k e M nx)
noncomputable def R73_1 : RegF := fun call e M nx k => e.getK q0 fun v0 => VV.onAny v0 (v_nqP false v0 fun v1 => VV.onAny v1 (e.setK q2 v1 fun e => k e M nx))
noncomputable def R73_2 : RegF := fun call e M nx k => e.getK q1 fun v0 => VV.onAny v0 (v_lt v0 (.i (.ofNat 0)) fun v1 => VV.onAny v1 (e.setK q3 v1 fun e => k e M nx))
noncomputable def R73_3 : RegF := fun call e M nx k => e.getK q0 fun v0 => e.getK q1 fun v1 => VV.onAny v0 (v_nck v0 fun v2 => v_fa v2 2 fun v3 => ldV M v3 1 false fun _ v4 => VV.onAny v1 (lkuV .nil false v4 v1 M fun v5 => v_nqP true v5 fun v6 => VV.onAny v6 (e.setK q4 v6 fun e => k e M nx)))
noncomputable def R73_4 : RegF := fun call e M nx k => e.getK q0 fun v0 => e.getK q1 fun v1 => VV.onAny v0 (v_nck v0 fun v2 => v_fa v2 2 fun v3 => ldV M v3 1 false fun _ v4 => VV.onAny v1 (v_bld [.nil, .nil, .nil, .nil, .nil, .nil, .nil, .nil] [] fun v5 => bxV 241 v5 M nx fun v6 M nx => mupV v4 v1 v6 M fun M => k e M nx))
noncomputable def R73_5 : RegF := fun call e M nx k => VV.onAny (.i (.ofNat 0)) (e.setK q5 (.i (.ofNat 0)) fun e => k e M nx)
noncomputable def R73_6 : RegF := fun call e M nx k => VV.onAny (.i (.ofNat 5)) (e.setK q5 (.i (.ofNat 5)) fun e => k e M nx)
noncomputable def R73_7 : RegF := fun call e M nx k => VV.onAny (.i (.ofNat 2)) (e.setK q5 (.i (.ofNat 2)) fun e => k e M nx)
noncomputable def R73_8 : RegF := fun call e M nx k => VV.onAny (.i (.ofNat 1)) (e.setK q5 (.i (.ofNat 1)) fun e => k e M nx)
noncomputable def S73 : List (P × I) := [(s0, q0), (s1, q1), (s5, q2), (s8, q3), (s11, q4), (s4, q5)]
noncomputable def G73 : F2 := .mk (fun call e M nx k => R73_0 call e M nx fun e M nx => R73_1 call e M nx fun e M nx => e.getK q2 fun v => v.onB fun c => Bool.rec (R73_2 call e M nx fun e M nx => e.getK q3 fun v => v.onB fun c => Bool.rec (R73_3 call e M nx fun e M nx => e.getK q4 fun v => v.onB fun c => Bool.rec (R73_4 call e M nx fun e M nx => R73_5 call e M nx fun e M nx => k .r e M nx) (R73_6 call e M nx fun e M nx => k .r e M nx) c) (R73_7 call e M nx fun e M nx => k .r e M nx) c) (R73_8 call e M nx fun e M nx => k .r e M nx) c) [.t q5] [q0, q1]
noncomputable def R74_0 : RegF := fun call e M nx k => VV.onAny (.i (.ofNat 0)) (e.setK q2 (.i (.ofNat 0)) fun e => k e M nx)
noncomputable def R74_1 : RegF := fun call e M nx k => e.getK q0 fun v0 => e.getK q1 fun v1 => VV.onAny v0 (VV.onAny v1 (v_mul (.i (.ofNat 6)) v1 fun v2 => v_conv .u64 v2 fun v3 => v_kop .shr v0 v3 fun v4 => v_kop .and v4 (.i (.ofNat 63)) fun v5 => VV.onAny v5 (e.setK q2 v5 fun e => k e M nx)))
noncomputable def S74 : List (P × I) := [(s0, q0), (s1, q1), (s4, q2)]
noncomputable def G74 : F2 := .mk (fun call e M nx k => R74_0 call e M nx fun e M nx => R74_1 call e M nx fun e M nx => k .r e M nx) [.t q2] [q0, q1]
noncomputable def R78_0 : RegF := fun call e M nx k => e.getK q0 fun v0 => VV.onAny v0 (v_lenS v0 fun v1 => VV.onAny v1 (e.setK q1 v1 fun e => k e M nx))
noncomputable def R78_1 : RegF := fun call e M nx k => e.getK q0 fun v0 => e.getK q1 fun v1 => VV.onAny v0 (VV.onAny v1 (VV.onAny v1 (v_conv .u64 v1 fun v2 => callV call s107 [v2] M nx fun v3 M nx => callV call s106 [v0, (.i (.ofNat 0)), v1, v3] M nx fun v4 M nx => k e M nx)))
noncomputable def S78 : List (P × I) := [(s0, q0), (s2, q1)]
noncomputable def G78 : F2 := .mk (fun call e M nx k => R78_0 call e M nx fun e M nx => R78_1 call e M nx fun e M nx => k .n e M nx) [] [q0]
noncomputable def R80_0 : RegF := fun call e M nx k => e.getK q0 fun v0 => e.getK q1 fun v1 => (fun M0 => VV.onAny v0 (v_nck v0 fun v2 => v_fa v2 2 fun v3 => ldV M v3 1 false fun _ v4 => VV.onAny v1 (VV.onAny v0 (v_nck v0 fun v5 => v_fa v5 2 fun v6 => ldV M v6 1 false fun _ v7 => VV.onAny v1 (v_ixS v4 v1 21 fun v8 => v_fa v8 5 fun v9 => stV M v9 (.i (.ofNat 1)) 1 fun M => v_ixS v7 v1 21 fun v10 => v_fa v10 6 fun v11 => Bool.rec false (stV M v11 (.i (.negSucc 0)) 1 fun M => k e M nx) (keptB M0 M [])))))) M
noncomputable def S80 : List (P × I) := [(s0, q0), (s1, q1)]
noncomputable def G80 : F2 := .mk (fun call e M nx k => R80_0 call e M nx fun e M nx => k .n e M nx) [] [q0, q1]
noncomputable def R83_0 : RegF := fun call e M nx k => e.getK q0 fun v0 => e.getK q1 fun v1 => e.getK q2 fun v2 => (fun M0 => VV.onAny v0 (v_nck v0 fun v3 => v_fa v3 2 fun v4 => ldV M v4 1 false fun _ v5 => VV.onAny v1 (v_ixS v5 v1 21 fun v6 => ldV M v6 21 true fun _ v7 => VV.onAny v0 (v_nck v0 fun v8 => v_fa v8 0 fun v9 => ldV M v9 1 false fun _ v10 => VV.onAny v1 (v_ixS v10 v1 8 fun v11 => ldV M v11 8 true fun _ v12 => VV.onAny v2 (callV call s112 [v7, v12, v2] M nx fun v13 M nx => VV.onAny v13 (v_ext v13 0 fun v14 => v_ext v13 1 fun v15 => alV 113 (rep 9 (.i (.ofNat 0)) ++ [(.bool false), (.i (.ofNat 0)), (.i (.ofNat 0)), (.i (.ofNat 0)), (.str []), (.bool false), (.i (.ofNat 0)), (.i (.ofNat 0)), (.i (.ofNat 0)), (.i (.ofNat 0)), (.i (.ofNat 0)), .nils]) M nx fun v16 M nx => stV M v16 v14 21 fun M => VV.onAny v15 (Bool.rec false (e.setK q5 v16 fun e => e.setK q3 v15 fun e => k e M nx) (keptB M0 M []))))))))) M
noncomputable def R83_1 : RegF := fun call e M nx k => e.getK q3 fun v0 => VV.onAny v0 (e.setK q4 v0 fun e => k e M nx)
noncomputable def R83_2 : RegF := fun call e M nx k => e.getK q0 fun v0 => e.getK q1 fun v1 => e.getK q5 fun v2 => (fun M0 => VV.onAny v0 (v_nck v0 fun v3 => v_fa v3 2 fun v4 => ldV M v4 1 false fun _ v5 => VV.onAny v1 (ldV M v2 21 true fun _ v6 => v_ixS v5 v1 21 fun v7 => Bool.rec false (stV M v7 v6 21 fun M => k e M nx) (keptB M0 M [])))) M
noncomputable def S83 : List (P × I) := [(s0, q0), (s1, q1), (s2, q2), (s7, q3), (s27, q4), (s6, q5)]
noncomputable def G83 : F2 := .mk (fun call e M nx k => R83_0 call e M nx fun e M nx => R83_1 call e M nx fun e M nx => (fun (j0 : En → Mem → P → Bool) => e.getK q4 fun v => v.onB fun c => Bool.rec (j0 e M nx) (R83_2 call e M nx fun e M nx => j0 e M nx) c) fun e M nx => k .n e M nx) [] [q0, q1, q2]
noncomputable def R84_0 : RegF := fun call e M nx k => VV.onAny (.i (.ofNat 0)) (e.setK q7 (.i (.ofNat 0)) fun e => k e M nx)
noncomputable def R84_1 : RegF := fun call e M nx k => VV.onAny (.i (.negSucc 0)) (e.setK q7 (.i (.negSucc 0)) fun e => k e M nx)
noncomputable def R84_2 : RegF := fun call e M nx k => e.getK q0 fun v0 => VV.onAny v0 (v_lenS v0 fun v1 => VV.onAny (.i (.ofNat 0)) (e.setK q4 v1 fun e => e.setK q2 (.i (.ofNat 0)) fun e => k e M nx))
noncomputable def R84_3 : RegF := fun call e M nx k => e.getK q2 fun v0 => e.getK q4 fun v1 => v_lt v0 v1 fun v2 => e.setK q5 v2 fun e => k e M nx
noncomputable def R84_4 : RegF := fun call e M nx k => e.getK q2 fun v0 => VV.onAny v0 (VV.onAny v0 (e.setK q3 v0 fun e => k e M nx))
noncomputable def R84_5 : RegF := fun call e M nx k => e.getK q1 fun v0 => e.getK q0 fun v1 => e.getK q3 fun v2 => VV.onAny v0 (VV.onAny v1 (VV.onAny v2 (v_ixS v1 v2 21 fun v3 => ldV M v3 21 true fun _ v4 => cvV call v0 [v4] M nx fun v5 M nx => e.setK q6 v5 fun e => k e M nx)))
noncomputable def R84_6 : RegF := fun call e M nx k => e.getK q2 fun v0 => v_add v0 (.i (.ofNat 1)) fun v1 => VV.onAny v1 (e.setK q2 v1 fun e => k e M nx)
noncomputable def R84_7 : RegF := fun call e M nx k => e.getK q3 fun v0 => VV.onAny v0 (VV.onAny v0 (e.setK q7 v0 fun e => k e M nx))
noncomputable def S84 : List (P × I) := [(s0, q0), (s1, q1), (s8, q2), (s5, q3), (s7, q4), (s9, q5), (s16, q6), (s4, q7)]
noncomputable def G84 : F2 := .mk (fun call e M nx k => R84_0 call e M nx fun e M nx => (fun (j0 : En → Mem → P → Bool) => R84_2 call e M nx fun e M nx => (fun (j1 : En → Mem → P → Bool) => loopK (fun call e M nx k => R84_3 call e M nx fun e M nx => e.getK q5 fun v => v.onB fun c => Bool.rec (k (.x 0) e M nx) (R84_4 call e M nx fun e M nx => R84_5 call e M nx fun e M nx => e.getK q6 fun v => v.onB fun c => Bool.rec (R84_6 call e M nx fun e M nx => k .n e M nx) (R84_7 call e M nx fun e M nx => k .r e M nx) c) c) call e M nx fun ex e M nx => Ex.rec (j1 e M nx) (k .r e M nx) (fun id => Bool.rec (k (.x id) e M nx) (j1 e M nx) (Nat.beq id 0)) ex) fun e M nx => j0 e M nx) fun e M nx => R84_1 call e M nx fun e M nx => k .r e M nx) [.t q7] [q0, q1]
noncomputable def R85_0 : RegF := fun call e M nx k => e.getK q0 fun v0 => bxV 113 v0 M nx fun v1 M nx => VV.onAny (.bool false) (e.setK q1 v1 fun e => e.setK q2 (.bool false) fun e => k e M nx)
noncomputable def R85_1 : RegF := fun call e M nx k => e.getK q1 fun v0 => v_fa v0 9 fun v1 => ldV M v1 1 false fun _ v2 => VV.onAny v2 (e.setK q2 v2 fun e => k e M nx)
noncomputable def S85 : List (P × I) := [(s0, q0), (s1, q1), (s2, q2)]
noncomputable def G85 : F2 := .mk (fun call e M nx k => R85_0 call e M nx fun e M nx => R85_1 call e M nx fun e M nx => k .r e M nx) [.t q2] [q0]
noncomputable def R86_0 : RegF := fun call e M nx k => VV.onAny (.i (.ofNat 0)) (VV.onAny (.bool false) (e.setK q3 (.i (.ofNat 0)) fun e => e.setK q4 (.bool false) fun e => k e M nx))
noncomputable def R86_1 : RegF := fun call e M nx k => e.getK q0 fun v0 => VV.onAny v0 (v_nck v0 fun v1 => v_fa v1 18 fun v2 => v_fa v2 2 fun v3 => ldV M v3 1 false fun _ v4 => v_lt (.i (.ofNat 0)) v4 fun v5 => e.setK q1 v5 fun e => k e M nx)
noncomputable def R86_2 : RegF := fun call e M nx k => e.getK q0 fun v0 => VV.onAny v0 (v_nck v0 fun v1 => v_fa v1 8 fun v2 => ldV M v2 1 false fun _ v3 => callV call s113 [v3, (.fn s114 [] [])] M nx fun v4 M nx => VV.onAny v4 (e.setK q2 v4 fun e => k e M nx))
noncomputable def R86_3 : RegF := fun call e M nx k => e.getK q2 fun v0 => VV.onAny v0 (VV.onAny v0 (v_le (.i (.ofNat 0)) v0 fun v1 => VV.onAny v0 (VV.onAny v1 (e.setK q3 v0 fun e => e.setK q4 v1 fun e => k e M nx))))
noncomputable def R86_4 : RegF := fun call e M nx k => e.getK q0 fun v0 => VV.onAny v0 (v_nck v0 fun v1 => v_fa v1 18 fun v2 => v_fa v2 0 fun v3 => ldV M v3 1 false fun _ v4 => VV.onAny v4 (VV.onAny (.bool true) (e.setK q3 v4 fun e => e.setK q4 (.bool true) fun e => k e M nx)))
noncomputable def S86 : List (P × I) := [(s0, q0), (s10, q1), (s4, q2), (s2, q3), (s3, q4)]
noncomputable def G86 : F2 := .mk (fun call e M nx k => R86_0 call e M nx fun e M nx => R86_1 call e M nx fun e M nx => e.getK q1 fun v => v.onB fun c => Bool.rec (R86_2 call e M nx fun e M nx => R86_3 call e M nx fun e M nx => k .r e M nx) (R86_4 call e M nx fun e M nx => k .r e M nx) c) [.t q3, .t q4] [q0]
noncomputable def R87_0 : RegF := fun call e M nx k => alV 66 [(.i (.ofNat 0)), .nils, .nils, .nils, .nils] M nx fun v0 M nx => e.setK q1 v0 fun e => k e M nx
noncomputable def R87_1 : RegF := fun call e M nx k => e.getK q0 fun v0 => VV.onAny v0 (v_nqP false v0 fun v1 => e.setK q6 v1 fun e => k e M nx)
noncomputable def R87_2 : RegF := fun call e M nx k => e.getK q0 fun v0 => (fun M0 => VV.onAny v0 (v_nck v0 fun v1 => v_fa v1 1 fun v2 => ldV M v2 1 false fun bv3 v3 => VV.onAny v0 (v_nck v0 fun v4 => v_fa v4 5 fun v5 => ldV M v5 1 false fun _ v6 => callV call s116 [v6] M nx fun v7 M nx => VV.onAny v0 (v_nck v0 fun v8 => v_fa v8 9 fun v9 => ldV M v9 1 false fun bv10 v10 => callV call s117 [v10] M nx fun v11 M nx => v_bld [(.i (.ofNat 0)), .nils, .nils, .nils, .nils] [(0, 1, v3), (2, 1, v7), (4, 1, v11)] fun v12 => alV 66 [(.i (.ofNat 0)), .nils, .nils, .nils, .nils] M nx fun v13 M nx => Bool.rec false (stV M v13 v12 5 fun M => e.setK q3 v13 fun e => k e M nx) (keptB M0 M (bv10 :: (bv3 :: []))))))) M
noncomputable def R87_3 : RegF := fun call e M nx k => e.getK q3 fun v0 => e.getK q1 fun v1 => ldV M v0 5 true fun _ v2 => stV M v1 v2 5 fun M => k e M nx
noncomputable def R87_4 : RegF := fun call e M nx k => e.getK q0 fun v0 => VV.onAny v0 (v_nck v0 fun v1 => v_fa v1 8 fun v2 => ldV M v2 1 false fun _ v3 => v_lenS v3 fun v4 => VV.onAny (.i (.ofNat 0)) (e.setK q13 v3 fun e => e.setK q11 v4 fun e => e.setK q4 (.i (.ofNat 0)) fun e => k e M nx))
noncomputable def R87_5 : RegF := fun call e M nx k => e.getK q4 fun v0 => e.getK q11 fun v1 => v_lt v0 v1 fun v2 => e.setK q12 v2 fun e => k e M nx
noncomputable def R87_6 : RegF := fun call e M nx k => e.getK q13 fun v0 => e.getK q4 fun v1 => v_ixS v0 v1 1 fun v2 => ldV M v2 1 false fun _ v3 => VV.onAny v3 (e.setK q14 v3 fun e => k e M nx)
noncomputable def R87_7 : RegF := fun call e M nx k => e.getK q14 fun v0 => VV.onAny v0 (callV call s115 [v0] M nx fun v1 M nx => VV.onAny v1 (v_ext v1 0 fun v2 => v_ext v1 1 fun v3 => VV.onAny v2 (VV.onAny v3 (e.setK q15 v3 fun e => k e M nx))))
noncomputable def R87_8 : RegF := fun call e M nx k => e.getK q3 fun v0 => e.getK q15 fun v1 => v_fa v0 3 fun v2 => ldV M v2 1 false fun _ v3 => VV.onAny v1 (bslV 4 1 1 [(.bool false)] [(0, 1, v1)] M nx fun v4 M nx => appV 4 1 1 v3 v4 M nx fun v5 M nx => v_fa v0 3 fun v6 => stV M v6 v5 1 fun M => k e M nx)
noncomputable def R87_9 : RegF := fun call e M nx k => e.getK q4 fun v0 => v_add v0 (.i (.ofNat 1)) fun v1 => VV.onAny v1 (e.setK q4 v1 fun e => k e M nx)
noncomputable def R87_10 : RegF := fun call e M nx k => e.getK q0 fun v0 => VV.onAny v0 (v_nck v0 fun v1 => v_fa v1 2 fun v2 => ldV M v2 1 false fun _ v3 => v_lenS v3 fun v4 => VV.onAny (.i (.ofNat 0)) (e.setK q9 v3 fun e => e.setK q7 v4 fun e => e.setK q2 (.i (.ofNat 0)) fun e => k e M nx))
noncomputable def R87_11 : RegF := fun call e M nx k => e.getK q2 fun v0 => e.getK q7 fun v1 => v_lt v0 v1 fun v2 => e.setK q8 v2 fun e => k e M nx
noncomputable def R87_12 : RegF := fun call e M nx k => e.getK q2 fun v0 => e.getK q9 fun v1 => VV.onAny v0 (v_ixS v1 v0 21 fun v2 => ldV M v2 21 true fun _ v3 => alV 113 (rep 9 (.i (.ofNat 0)) ++ [(.bool false), (.i (.ofNat 0)), (.i (.ofNat 0)), (.i (.ofNat 0)), (.str []), (.bool false), (.i (.ofNat 0)), (.i (.ofNat 0)), (.i (.ofNat 0)), (.i (.ofNat 0)), (.i (.ofNat 0)), .nils]) M nx fun v4 M nx => VV.onAny v0 (stV M v4 v3 21 fun M => e.setK q5 v4 fun e => e.setK q10 v0 fun e => k e M nx))
noncomputable def R87_13 : RegF := fun call e M nx k => e.getK q0 fun v0 => e.getK q10 fun v1 => e.getK q5 fun v2 => VV.onAny v0 (v_nck v0 fun v3 => v_fa v3 5 fun v4 => ldV M v4 1 false fun _ v5 => VV.onAny v1 (callV call s118 [v5, v1] M nx fun v6 M nx => v_fa v2 20 fun v7 => stV M v7 v6 1 fun M => k e M nx))
noncomputable def R87_14 : RegF := fun call e M nx k => e.getK q3 fun v0 => e.getK q5 fun v1 => v_fa v0 1 fun v2 => ldV M v2 1 false fun _ v3 => ldV M v1 21 true fun _ v4 => bslV 113 21 1 (rep 9 (.i (.ofNat 0)) ++ [(.bool false), (.i (.ofNat 0)), (.i (.ofNat 0)), (.i (.ofNat 0)), (.str []), (.bool false), (.i (.ofNat 0)), (.i (.ofNat 0)), (.i (.ofNat 0)), (.i (.ofNat 0)), (.i (.ofNat 0)), .nils]) [(0, 21, v4)] M nx fun v5 M nx => appV 113 21 192 v3 v5 M nx fun v6 M nx => v_fa v0 1 fun v7 => stV M v7 v6 1 fun M => k e M nx
noncomputable def R87_15 : RegF := fun call e M nx k => e.getK q2 fun v0 => v_add v0 (.i (.ofNat 1)) fun v1 => VV.onAny v1 (e.setK q2 v1 fun e => k e M nx)
noncomputable def R87_16 : RegF := fun call e M nx k => e.getK q1 fun v0 => v_bld [(.i (.ofNat 0)), .nils, .nils, .nils, .nils] [] fun v1 => stV M v0 v1 5 fun M => k e M nx
noncomputable def S87 : List (P × I) := [(s0, q0), (s2, q1), (s33, q2), (s3, q3), (s57, q4), (s5, q5), (s11, q6), (s32, q7), (s34, q8), (s31, q9), (s4, q10), (s56, q11), (s58, q12), (s55, q13), (s7, q14), (s9, q15)]
noncomputable def G87 : F2 := .mk (fun call e M nx k => R87_0 call e M nx fun e M nx => R87_1 call e M nx fun e M nx => e.getK q6 fun v => v.onB fun c => Bool.rec (R87_2 call e M nx fun e M nx => (fun (j0 : En → Mem → P → Bool) => R87_10 call e M nx fun e M nx => (fun (j3 : En → Mem → P → Bool) => loopK (fun call e M nx k => R87_11 call e M nx fun e M nx => e.getK q8 fun v => v.onB fun c => Bool.rec (k (.x 0) e M nx) (R87_12 call e M nx fun e M nx => R87_13 call e M nx fun e M nx => R87_14 call e M nx fun e M nx => R87_15 call e M nx fun e M nx => k .n e M nx) c) call e M nx fun ex e M nx => Ex.rec (j3 e M nx) (k .r e M nx) (fun id => Bool.rec (k (.x id) e M nx) (j3 e M nx) (Nat.beq id 0)) ex) fun e M nx => j0 e M nx) fun e M nx => (fun (j1 : En → Mem → P → Bool) => R87_4 call e M nx fun e M nx => (fun (j2 : En → Mem → P → Bool) => loopK (fun call e M nx k => R87_5 call e M nx fun e M nx => e.getK q12 fun v => v.onB fun c => Bool.rec (k (.x 2) e M nx) (R87_6 call e M nx fun e M nx => R87_7 call e M nx fun e M nx => R87_8 call e M nx fun e M nx => R87_9 call e M nx fun e M nx => k .n e M nx) c) call e M nx fun ex e M nx => Ex.rec (j2 e M nx) (k .r e M nx) (fun id => Bool.rec (k (.x id) e M nx) (j2 e M nx) (Nat.beq id 2)) ex) fun e M nx => j1 e M nx) fun e M nx => R87_3 call e M nx fun e M nx => k .r e M nx) (R87_16 call e M nx fun e M nx => k .r e M nx) c) [.c q1 5 true] [q0]
noncomputable def R89_0 : RegF := fun call e M nx k => VV.onAny (.i (.ofNat 0)) (e.setK q8 (.i (.ofNat 0)) fun e => k e M nx)
noncomputable def R89_1 : RegF := fun call e M nx k => e.getK q0 fun v0 => VV.onAny v0 (callV call s120 [v0] M nx fun v1 M nx => VV.onAny v1 (v_ext v1 0 fun v2 => v_ext v1 1 fun v3 => VV.onAny v2 (VV.onAny v3 (e.setK q1 v2 fun e => e.setK q3 v3 fun e => k e M nx))))
noncomputable def R89_2 : RegF := fun call e M nx k => e.getK q3 fun v0 => VV.onAny v0 (v_not v0 fun v1 => e.setK q4 v1 fun e => k e M nx)
noncomputable def R89_3 : RegF := fun call e M nx k => e.getK q0 fun v0 => e.getK q1 fun v1 => VV.onAny v0 (VV.onAny v1 (callV call s121 [v0, v1] M nx fun v2 M nx => VV.onAny v2 (v_ext v2 0 fun v3 => v_ext v2 1 fun v4 => VV.onAny v3 (VV.onAny v4 (e.setK q2 v3 fun e => e.setK q5 v4 fun e => k e M nx)))))
noncomputable def R89_4 : RegF := fun call e M nx k => e.getK q5 fun v0 => VV.onAny v0 (e.setK q6 v0 fun e => k e M nx)
noncomputable def R89_5 : RegF := fun call e M nx k => e.getK q0 fun v0 => e.getK q1 fun v1 => VV.onAny v0 (VV.onAny v1 (callV call s123 [v0, v1] M nx fun v2 M nx => v_not v2 fun v3 => e.setK q7 v3 fun e => k e M nx))
noncomputable def R89_6 : RegF := fun call e M nx k => e.getK q0 fun v0 => e.getK q1 fun v1 => VV.onAny v0 (VV.onAny v1 (VV.onAny v0 (v_nck v0 fun v2 => v_fa v2 1 fun v3 => ldV M v3 1 false fun _ v4 => callV call s124 [v0, v1, v4] M nx fun v5 M nx => k e M nx)))
noncomputable def R89_7 : RegF := fun call e M nx k => e.getK q1 fun v0 => VV.onAny v0 (VV.onAny v0 (e.setK q8 v0 fun e => k e M nx))
noncomputable def R89_8 : RegF := fun call e M nx k => e.getK q0 fun v0 => e.getK q1 fun v1 => e.getK q2 fun v2 => VV.onAny v0 (v_nck v0 fun v3 => v_fa v3 5 fun v4 => ldV M v4 1 false fun _ v5 => VV.onAny v1 (VV.onAny v2 (callV call s122 [v5, v1, v2] M nx fun v6 M nx => k e M nx)))
noncomputable def R89_9 : RegF := fun call e M nx k => e.getK q0 fun v0 => e.getK q1 fun v1 => e.getK q2 fun v2 => (fun M0 => VV.onAny v0 (v_nck v0 fun v3 => v_fa v3 2 fun v4 => ldV M v4 1 false fun _ v5 => VV.onAny v1 (VV.onAny v0 (v_nck v0 fun v6 => v_fa v6 2 fun v7 => ldV M v7 1 false fun _ v8 => VV.onAny v1 (VV.onAny v2 (v_ixS v5 v1 21 fun v9 => v_fa v9 5 fun v10 => stV M v10 (.i (.ofNat 2)) 1 fun M => v_ixS v8 v1 21 fun v11 => v_fa v11 6 fun v12 => Bool.rec false (stV M v12 v2 1 fun M => k e M nx) (keptB M0 M []))))))) M
noncomputable def R89_10 : RegF := fun call e M nx k => VV.onAny (.i (.negSucc 0)) (e.setK q8 (.i (.negSucc 0)) fun e => k e M nx)
noncomputable def S89 : List (P × I) := [(s0, q0), (s3, q1), (s5, q2), (s4, q3), (s13, q4), (s6, q5), (s20, q6), (s46, q7), (s2, q8)]
noncomputable def G89 : F2 := .mk (fun call e M nx k => R89_0 call e M nx fun e M nx => (fun (j0 : En → Mem → P → Bool) => loopK (fun call e M nx k => (fun (j1 : En → Mem → P → Bool) => R89_1 call e M nx fun e M nx => R89_2 call e M nx fun e M nx => e.getK q4 fun v => v.onB fun c => Bool.rec (R89_3 call e M nx fun e M nx => R89_4 call e M nx fun e M nx => e.getK q6 fun v => v.onB fun c => Bool.rec (R89_5 call e M nx fun e M nx => e.getK q7 fun v => v.onB fun c => Bool.rec (R89_6 call e M nx fun e M nx => j1 e M nx) (R89_7 call e M nx fun e M nx => k .r e M nx) c) (R89_8 call e M nx fun e M nx => R89_9 call e M nx fun e M nx => j1 e M nx) c) (R89_10 call e M nx fun e M nx => k .r e M nx) c) fun e M nx => k .n e M nx) call e M nx fun ex e M nx => Ex.rec (j0 e M nx) (k .r e M nx) (fun id => Bool.rec (k (.x id) e M nx) (j0 e M nx) (Nat.beq id 0)) ex) fun e M nx => k .n e M nx) [.t q8] [q0]
noncomputable def R90_0 : RegF := fun call e M nx k => e.getK q0 fun v0 => bxV 113 v0 M nx fun v1 M nx => alV 113 (rep 9 (.i (.ofNat 0)) ++ [(.bool false), (.i (.ofNat 0)), (.i (.ofNat 0)), (.i (.ofNat 0)), (.str []), (.bool false), (.i (.ofNat 0)), (.i (.ofNat 0)), (.i (.ofNat 0)), (.i (.ofNat 0)), (.i (.ofNat 0)), .nils]) M nx fun v2 M nx => e.setK q2 v1 fun e => e.setK q3 v2 fun e => k e M nx
noncomputable def R90_1 : RegF := fun call e M nx k => e.getK q2 fun v0 => e.getK q1 fun v1 => v_fa v0 17 fun v2 => ldV M v2 1 false fun _ v3 => VV.onAny v1 (bslV 3 1 2 [(.i (.ofNat 0)), (.i (.ofNat 0))] [(0, 1, v3), (1, 1, v1)] M nx fun v4 M nx => callV call s111 [v4] M nx fun v5 M nx => v_fa v0 17 fun v6 => stV M v6 v5 1 fun M => k e M nx)
noncomputable def R90_2 : RegF := fun call e M nx k => e.getK q2 fun v0 => e.getK q3 fun v1 => ldV M v0 21 true fun _ v2 => callV call s125 [v2] M nx fun v3 M nx => stV M v1 v3 21 fun M => k e M nx
noncomputable def S90 : List (P × I) := [(s0, q0), (s1, q1), (s2, q2), (s4, q3)]
noncomputable def G90 : F2 := .mk (fun call e M nx k => R90_0 call e M nx fun e M nx => R90_1 call e M nx fun e M nx => R90_2 call e M nx fun e M nx => k .r e M nx) [.c q3 21 true] [q0, q1]
noncomputable def R91_0 : RegF := fun call e M nx k => e.getK q0 fun v0 => VV.onAny v0 (v_nqP false v0 fun v1 => e.setK q4 v1 fun e => k e M nx)
noncomputable def R91_1 : RegF := fun call e M nx k => e.getK q0 fun v0 => e.getK q1 fun v1 => VV.onAny v0 (v_nck v0 fun v2 => v_fa v2 1 fun v3 => ldV M v3 1 false fun _ v4 => VV.onAny v1 (lkuV .nils false v4 v1 M fun v5 => v_lenS v5 fun v6 => VV.onAny (.i (.ofNat 0)) (e.setK q5 v6 fun e => e.setK q3 (.i (.ofNat 0)) fun e => k e M nx)))
noncomputable def R91_2 : RegF := fun call e M nx k => e.getK q3 fun v0 => e.getK q5 fun v1 => v_lt v0 v1 fun v2 => e.setK q6 v2 fun e => k e M nx
noncomputable def R91_3 : RegF := fun call e M nx k => e.getK q3 fun v0 => VV.onAny v0 (VV.onAny v0 (e.setK q7 v0 fun e => k e M nx))
noncomputable def R91_4 : RegF := fun call e M nx k => e.getK q0 fun v0 => e.getK q1 fun v1 => e.getK q7 fun v2 => VV.onAny v0 (v_nck v0 fun v3 => v_fa v3 1 fun v4 => ldV M v4 1 false fun _ v5 => VV.onAny v1 (lkuV .nils false v5 v1 M fun v6 => VV.onAny v2 (v_ixS v6 v2 2 fun v7 => VV.onAny v7 (e.setK q8 v7 fun e => k e M nx))))
noncomputable def R91_5 : RegF := fun call e M nx k => e.getK q8 fun v0 => e.getK q2 fun v1 => VV.onAny v0 (VV.onAny v0 (v_nck v0 fun v2 => v_fa v2 1 fun v3 => ldV M v3 1 false fun _ v4 => VV.onAny v1 (bslV 3 1 2 [(.i (.ofNat 0)), (.i (.ofNat 0))] [(0, 1, v4), (1, 1, v1)] M nx fun v5 M nx => callV call s111 [v5] M nx fun v6 M nx => v_nck v0 fun v7 => v_fa v7 1 fun v8 => stV M v8 v6 1 fun M => k e M nx)))
noncomputable def R91_6 : RegF := fun call e M nx k => e.getK q3 fun v0 => v_add v0 (.i (.ofNat 1)) fun v1 => VV.onAny v1 (e.setK q3 v1 fun e => k e M nx)
noncomputable def S91 : List (P × I) := [(s0, q0), (s1, q1), (s2, q2), (s17, q3), (s9, q4), (s16, q5), (s18, q6), (s6, q7), (s7, q8)]
noncomputable def G91 : F2 := .mk (fun call e M nx k => R91_0 call e M nx fun e M nx => e.getK q4 fun v => v.onB fun c => Bool.rec (R91_1 call e M nx fun e M nx => (fun (j0 : En → Mem → P → Bool) => loopK (fun call e M nx k => R91_2 call e M nx fun e M nx => e.getK q6 fun v => v.onB fun c => Bool.rec (k (.x 0) e M nx) (R91_3 call e M nx fun e M nx => R91_4 call e M nx fun e M nx => R91_5 call e M nx fun e M nx => R91_6 call e M nx fun e M nx => k .n e M nx) c) call e M nx fun ex e M nx => Ex.rec (j0 e M nx) (k .r e M nx) (fun id => Bool.rec (k (.x id) e M nx) (j0 e M nx) (Nat.beq id 0)) ex) fun e M nx => k .n e M nx) (k .r e M nx) c) [] [q0, q1, q2]
noncomputable def R92_0 : RegF := fun call e M nx k => alV 54 [(.i (.ofNat 0)), (.i (.ofNat 0)), (.i (.ofNat 0)), (.i (.ofNat 0)), (.i (.ofNat 0)), (.i (.ofNat 0)), (.i (.ofNat 0)), (.str []), (.str [])] M nx fun v0 M nx => e.setK q2 v0 fun e => k e M nx
noncomputable def R92_1 : RegF := fun call e M nx k => e.getK q0 fun v0 => e.getK q1 fun v1 => (fun M0 => VV.onAny v0 (v_nck v0 fun v2 => v_fa v2 3 fun v3 => ldV M v3 1 false fun _ v4 => VV.onAny v1 (v_ixS v4 v1 1 fun v5 => ldV M v5 1 false fun _ v6 => VV.onAny v0 (v_nck v0 fun v7 => v_fa v7 2 fun v8 => ldV M v8 1 false fun _ v9 => VV.onAny v1 (v_ixS v9 v1 21 fun v10 => v_fa v10 7 fun v11 => ldV M v11 1 false fun _ v12 => VV.onAny v6 (VV.onAny v12 (Bool.rec false (e.setK q4 v6 fun e => e.setK q3 v12 fun e => k e M nx) (keptB M0 M [])))))))) M
noncomputable def R92_2 : RegF := fun call e M nx k => e.getK q3 fun v0 => e.getK q4 fun v1 => VV.onAny v0 (VV.onAny v1 (v_lenS v1 fun v2 => v_lt v0 v2 fun v3 => VV.onAny v3 (e.setK q5 v3 fun e => k e M nx)))
noncomputable def R92_3 : RegF := fun call e M nx k => e.getK q0 fun v0 => e.getK q1 fun v1 => VV.onAny v0 (VV.onAny v1 (callV call s126 [v0, v1] M nx fun v2 M nx => VV.onAny v2 (e.setK q6 v2 fun e => k e M nx)))
noncomputable def R92_4 : RegF := fun call e M nx k => e.getK q2 fun v0 => v_bld [(.i (.ofNat 0)), (.i (.ofNat 0)), (.i (.ofNat 0)), (.str []), (.str [])] [(0, 1, (.i (.ofNat 15)))] fun v1 => v_bld [(.i (.ofNat 0)), (.i (.ofNat 0)), (.i (.ofNat 0)), (.i (.ofNat 0)), (.i (.ofNat 0)), (.i (.ofNat 0)), (.i (.ofNat 0)), (.str []), (.str [])] [(0, 1, (.i (.ofNat 10))), (4, 5, v1)] fun v2 => stV M v0 v2 9 fun M => k e M nx
noncomputable def R92_5 : RegF := fun call e M nx k => e.getK q2 fun v0 => v_bld [(.i (.ofNat 0)), (.i (.ofNat 0)), (.i (.ofNat 0)), (.i (.ofNat 0)), (.i (.ofNat 0)), (.i (.ofNat 0)), (.i (.ofNat 0)), (.str []), (.str [])] [(0, 1, (.i (.ofNat 4)))] fun v1 => stV M v0 v1 9 fun M => k e M nx
noncomputable def R92_6 : RegF := fun call e M nx k => e.getK q4 fun v0 => e.getK q3 fun v1 => e.getK q2 fun v2 => VV.onAny v0 (VV.onAny v1 (v_ixS v0 v1 9 fun v3 => ldV M v3 9 true fun _ v4 => stV M v2 v4 9 fun M => k e M nx))
noncomputable def S92 : List (P × I) := [(s0, q0), (s1, q1), (s4, q2), (s6, q3), (s5, q4), (s22, q5), (s31, q6)]
noncomputable def G92 : F2 := .mk (fun call e M nx k => R92_0 call e M nx fun e M nx => R92_1 call e M nx fun e M nx => R92_2 call e M nx fun e M nx => e.getK q5 fun v => v.onB fun c => Bool.rec (R92_3 call e M nx fun e M nx => e.getK q6 fun v => v.onB fun c => Bool.rec (R92_4 call e M nx fun e M nx => k .r e M nx) (R92_5 call e M nx fun e M nx => k .r e M nx) c) (R92_6 call e M nx fun e M nx => k .r e M nx) c) [.c q2 9 true] [q0, q1]
noncomputable def R93_0 : RegF := fun call e M nx k => e.getK q0 fun v0 => e.getK q1 fun v1 => VV.onAny v0 (v_nck v0 fun v2 => v_fa v2 2 fun v3 => ldV M v3 1 false fun _ v4 => VV.onAny v1 (v_ixS v4 v1 21 fun v5 => v_fa v5 19 fun v6 => ldV M v6 1 false fun _ v7 => v_le (.i (.ofNat 0)) v7 fun v8 => e.setK q4 v8 fun e => k e M nx))
noncomputable def R93_1 : RegF := fun call e M nx k => e.getK q0 fun v0 => e.getK q1 fun v1 => VV.onAny v0 (VV.onAny v1 (callV call s92 [v0, v1] M nx fun v2 M nx => alV 54 [(.i (.ofNat 0)), (.i (.ofNat 0)), (.i (.ofNat 0)), (.i (.ofNat 0)), (.i (.ofNat 0)), (.i (.ofNat 0)), (.i (.ofNat 0)), (.str []), (.str [])] M nx fun v3 M nx => stV M v3 v2 9 fun M => e.setK q3 v3 fun e => k e M nx))
noncomputable def R93_2 : RegF := fun call e M nx k => VV.onAny (.nilf) (e.setK q15 (.nilf) fun e => k e M nx)
noncomputable def R93_3 : RegF := fun call e M nx k => e.getK q15 fun v0 => e.getK q1 fun v1 => e.getK q3 fun v2 => VV.onAny v0 (VV.onAny v1 (ldV M v2 9 true fun _ v3 => cvV call v0 [v1, v3] M nx fun v4 M nx => k e M nx))
noncomputable def R93_4 : RegF := fun call e M nx k => e.getK q3 fun v0 => v_fa v0 0 fun v1 => ldV M v1 1 false fun _ v2 => e.setK q2 v2 fun e => k e M nx
noncomputable def R93_5 : RegF := fun call e M nx k => e.getK q2 fun v0 => v_eq v0 (.i (.ofNat 6)) fun v1 => VV.onAny v1 (e.setK q5 v1 fun e => k e M nx)
noncomputable def R93_6 : RegF := fun call e M nx k => e.getK q2 fun v0 => v_eq v0 (.i (.ofNat 1)) fun v1 => VV.onAny v1 (e.setK q6 v1 fun e => k e M nx)
noncomputable def R93_7 : RegF := fun call e M nx k => e.getK q2 fun v0 => v_eq v0 (.i (.ofNat 5)) fun v1 => VV.onAny v1 (e.setK q7 v1 fun e => k e M nx)
noncomputable def R93_8 : RegF := fun call e M nx k => e.getK q2 fun v0 => v_eq v0 (.i (.ofNat 4)) fun v1 => VV.onAny v1 (e.setK q8 v1 fun e => k e M nx)
noncomputable def R93_9 : RegF := fun call e M nx k => e.getK q2 fun v0 => v_eq v0 (.i (.ofNat 2)) fun v1 => VV.onAny v1 (e.setK q9 v1 fun e => k e M nx)
noncomputable def R93_10 : RegF := fun call e M nx k => e.getK q2 fun v0 => v_eq v0 (.i (.ofNat 3)) fun v1 => VV.onAny v1 (e.setK q10 v1 fun e => k e M nx)
noncomputable def R93_11 : RegF := fun call e M nx k => e.getK q2 fun v0 => v_eq v0 (.i (.ofNat 7)) fun v1 => VV.onAny v1 (e.setK q11 v1 fun e => k e M nx)
noncomputable def R93_12 : RegF := fun call e M nx k => e.getK q2 fun v0 => v_eq v0 (.i (.ofNat 8)) fun v1 => VV.onAny v1 (e.setK q12 v1 fun e => k e M nx)
noncomputable def R93_13 : RegF := fun call e M nx k => e.getK q2 fun v0 => v_eq v0 (.i (.ofNat 9)) fun v1 => VV.onAny v1 (e.setK q13 v1 fun e => k e M nx)
noncomputable def R93_14 : RegF := fun call e M nx k => e.getK q2 fun v0 => v_eq v0 (.i (.ofNat 10)) fun v1 => VV.onAny v1 (e.setK q14 v1 fun e => k e M nx)
noncomputable def R93_15 : RegF := fun call e M nx k => e.getK q0 fun v0 => VV.onAny v0 (v_mkf s138 [v0] [] fun v1 => VV.onAny v1 (e.setK q15 v1 fun e => k e M nx))
noncomputable def R93_16 : RegF := fun call e M nx k => e.getK q0 fun v0 => VV.onAny v0 (v_mkf s137 [v0] [] fun v1 => VV.onAny v1 (e.setK q15 v1 fun e => k e M nx))
noncomputable def R93_17 : RegF := fun call e M nx k => e.getK q0 fun v0 => VV.onAny v0 (v_mkf s136 [v0] [] fun v1 => VV.onAny v1 (e.setK q15 v1 fun e => k e M nx))
noncomputable def R93_18 : RegF := fun call e M nx k => e.getK q0 fun v0 => VV.onAny v0 (v_mkf s135 [v0] [] fun v1 => VV.onAny v1 (e.setK q15 v1 fun e => k e M nx))
noncomputable def R93_19 : RegF := fun call e M nx k => e.getK q0 fun v0 => VV.onAny v0 (v_mkf s134 [v0] [] fun v1 => VV.onAny v1 (e.setK q15 v1 fun e => k e M nx))
noncomputable def R93_20 : RegF := fun call e M nx k => e.getK q0 fun v0 => VV.onAny v0 (v_mkf s133 [v0] [] fun v1 => VV.onAny v1 (e.setK q15 v1 fun e => k e M nx))
noncomputable def R93_21 : RegF := fun call e M nx k => e.getK q0 fun v0 => VV.onAny v0 (v_mkf s132 [v0] [] fun v1 => VV.onAny v1 (e.setK q15 v1 fun e => k e M nx))
noncomputable def R93_22 : RegF := fun call e M nx k => e.getK q0 fun v0 => VV.onAny v0 (v_mkf s131 [v0] [] fun v1 => VV.onAny v1 (e.setK q15 v1 fun e => k e M nx))
noncomputable def R93_23 : RegF := fun call e M nx k => e.getK q0 fun v0 => VV.onAny v0 (v_mkf s130 [v0] [] fun v1 => VV.onAny v1 (e.setK q15 v1 fun e => k e M nx))
noncomputable def R93_24 : RegF := fun call e M nx k => e.getK q0 fun v0 => VV.onAny v0 (v_mkf s129 [v0] [] fun v1 => VV.onAny v1 (e.setK q15 v1 fun e => k e M nx))
noncomputable def R93_25 : RegF := fun call e M nx k => e.getK q0 fun v0 => VV.onAny v0 (v_mkf s128 [v0] [] fun v1 => VV.onAny v1 (e.setK q15 v1 fun e => k e M nx))
noncomputable def R93_26 : RegF := fun call e M nx k => e.getK q0 fun v0 => e.getK q1 fun v1 => VV.onAny v0 (VV.onAny v1 (callV call s127 [v0, v1] M nx fun v2 M nx => k e M nx))
noncomputable def S93 : List (P × I) := [(s0, q0), (s1, q1), (s22, q2), (s4, q3), (s14, q4), (s25, q5), (s29, q6), (s33, q7), (s37, q8), (s41, q9), (s45, q10), (s49, q11), (s53, q12), (s57, q13), (s61, q14), (s5, q15)]
noncomputable def G93 : F2 := .mk (fun call e M nx k => R93_0 call e M nx fun e M nx => e.getK q4 fun v => v.onB fun c => Bool.rec (R93_1 call e M nx fun e M nx => R93_2 call e M nx fun e M nx => (fun (j0 : En → Mem → P → Bool) => R93_4 call e M nx fun e M nx => (fun (j1 : En → Mem → P → Bool) => R93_5 call e M nx fun e M nx => (fun (j2 : En → Mem → P → Bool) => e.getK q5 fun v => v.onB fun c => Bool.rec (R93_6 call e M nx fun e M nx => (fun (j3 : En → Mem → P → Bool) => e.getK q6 fun v => v.onB fun c => Bool.rec (R93_7 call e M nx fun e M nx => (fun (j4 : En → Mem → P → Bool) => e.getK q7 fun v => v.onB fun c => Bool.rec (R93_8 call e M nx fun e M nx => (fun (j5 : En → Mem → P → Bool) => e.getK q8 fun v => v.onB fun c => Bool.rec (R93_9 call e M nx fun e M nx => (fun (j6 : En → Mem → P → Bool) => e.getK q9 fun v => v.onB fun c => Bool.rec (R93_10 call e M nx fun e M nx => (fun (j7 : En → Mem → P → Bool) => e.getK q10 fun v => v.onB fun c => Bool.rec (R93_11 call e M nx fun e M nx => (fun (j8 : En → Mem → P → Bool) => e.getK q11 fun v => v.onB fun c => Bool.rec (R93_12 call e M nx fun e M nx => (fun (j9 : En → Mem → P → Bool) => e.getK q12 fun v => v.onB fun c => Bool.rec (R93_13 call e M nx fun e M nx => (fun (j10 : En → Mem → P → Bool) => e.getK q13 fun v => v.onB fun c => Bool.rec (R93_14 call e M nx fun e M nx => (fun (j11 : En → Mem → P → Bool) => e.getK q14 fun v => v.onB fun c => Bool.rec (R93_15 call e M nx fun e M nx => j11 e M nx) (R93_16 call e M nx fun e M nx => j11 e M nx) c) fun e M nx => j10 e M nx) (R93_17 call e M nx fun e M nx => j10 e M nx) c) fun e M nx => j9 e M nx) (R93_18 call e M nx fun e M nx => j9 e M nx) c) fun e M nx => j8 e M nx) (R93_19 call e M nx fun e M nx => j8 e M nx) c) fun e M nx => j7 e M nx) (R93_20 call e M nx fun e M nx => j7 e M nx) c) fun e M nx => j6 e M nx) (R93_21 call e M nx fun e M nx => j6 e M nx) c) fun e M nx => j5 e M nx) (R93_22 call e M nx fun e M nx => j5 e M nx) c) fun e M nx => j4 e M nx) (R93_23 call e M nx fun e M nx => j4 e M nx) c) fun e M nx => j3 e M nx) (R93_24 call e M nx fun e M nx => j3 e M nx) c) fun e M nx => j2 e M nx) (R93_25 call e M nx fun e M nx => j2 e M nx) c) fun e M nx => j1 e M nx) fun e M nx => j0 e M nx) fun e M nx => R93_3 call e M nx fun e M nx => k .n e M nx) (R93_26 call e M nx fun e M nx => k .r e M nx) c) [] [q0, q1]
end Ast
