/- A loop of laws.FnFields, cut out: a theorem of its own over a frame of letters; no condition. -/
import Derived.Test.YtmmckoemkpfgbaaLop
import Derived.Test.YtmmckoemkpfgbaaFfQ
import Derived.Test.YtmmckoemkpfgbaaFfA
import Derived.Test.YtmmckoemkpfgbaaFfL2
set_option linter.unusedVariables false
namespace Go.Proofs.Ytmmckoemkpfgbaa
open Go.BigFrame
open Go.RowKit Go.Arr
theorem outline_k (a b : Int) (f : Nat → Int) (x y V : Int) (hV : outV a b f x y = V) (hC : fC a b f x y = 0) (ha : -128 ≤ a ∧ a ≤ 127) (hb : -128 ≤ b ∧ b ≤ 127) (hf : ∀ i, 0 ≤ f i ∧ f i ≤ 255) (w : World) :
    Calls Try.prog 12 #[.agg (pic 144 a b f), .int .i64 x, .int .i64 y] w fun e w' => e = .returned (.tuple #[.int .i64 V, .int .i64 0]) ∧ New w w' := by
  rw [← hV, ← hC]; exact outline_impl a b f x y ha hb hf w
noncomputable def ffL3Body : Code := loopIn (Try.f3.body.getD .skip) 2
set_option maxHeartbeats 4000000 in
set_option maxRecDepth 1000000 in
theorem ffL3 (a b : Int) (f : Nat → Int) (ha : 1 ≤ a ∧ a ≤ 12) (hb : 1 ≤ b ∧ b ≤ 12) (hf : ∀ i, 0 ≤ f i ∧ f i ≤ 255) (hok : Hid (okPic a b f = true)) (N gP gL gD base cD : Nat) (vs : Nat → Value) (wB w9 : World)
    (hN : fsN a b f 144 = N) (oP : Hid (obj wB gP = some (.cells (pic 144 a b f) 27))) (hrr : Hid (RR wB base (.slice (some ⟨gD, 0, none⟩) N cD) N vs (fsM a b f 144) (fsF a b f 144)))
    (oL : Hid (obj wB gL = some (.cells (arr N .i64 (outU a b f 144 0)) 2))) (hN9 : New wB w9)
    (Q0 : Exit → Act → World → Prop) (s0 s1 s2 s3 s4 s6 s7 s9 s10 s11 s12 s13 s14 s16 s17 s18 s19 s20 s21 s22 s24 s25 s26 s27 s28 s29 s30 s31 s32 s33 s34 s35 s36 s37 s38 s39 s40 s41 s42 s43 s44 s45 s46 s47 s48 s49 s50 s51 s52 s53 s54 s55 s56 s57 s58 s59 s60 s61 s62 s63 s64 s65 s66 s67 s68 s69 s70 s71 s72 s73 s74 s75 s76 s77 s78 s79 s80 s81 s82 s83 s84 s85 s86 s87 s88 s89 s90 s91 s92 s93 s94 s95 s96 s97 s98 s99 s100 s101 s102 s103 s104 s105 s106 s107 s108 s109 s110 s111 s112 s113 s114 s115 s116 s117 s118 s119 s120 s121 s122 s123 s124 s125 s126 s127 s128 s129 s130 s131 s132 s133 s134 s135 s136 s137 s138 s139 s140 s141 s142 s143 s144 s145 s146 s147 s148 s149 s150 s151 s152 s153 s154 s155 s156 s157 s158 s159 s160 s161 s162 s163 s164 s165 s166 s167 s168 s169 s170 s171 s172 s173 s174 s175 s176 s177 s178 s179 s180 s181 s182 s183 s184 s185 s186 s187 s188 s189 s190 s191 s192 s193 s194 s195 s196 s197 s198 s199 s200 s201 s202 s203 s204 s205 s206 s207 s208 s209 s210 s211 s212 s213 s214 s215 s216 s217 s218 s219 s220 s221 s222 s223 s224 s225 s226 s227 s228 s229 s230 s231 s232 s233 s234 s235 s236 s237 s238 s239 s240 s241 s242 s243 s244 s245 s246 s247 s248 s249 s250 s251 s252 s253 s254 s255 s256 s257 s258 s259 s260 s261 s262 s263 s264 s265 s266 s267 s268 s269 s270 s271 s272 s273 s274 s275 s276 s277 s278 s279 s280 s281 s282 s283 s284 s285 s286 s287 s288 s289 s290 s291 s292 s293 s294 s295 s296 s297 s298 s299 s300 s301 s302 s303 s304 s305 s306 s307 s308 s309 s310 s311 s312 s313 s314 s315 s316 s317 s318 s319 s320 s321 s322 s323 s324 s325 s326 s327 s328 s329 s330 s331 s332 s333 s334 s335 s336 s337 s338 s339 s340 s341 s342 s343 s344 s345 s346 s347 s348 s349 s350 s351 s352 s353 s354 s355 s356 s357 s358 s359 s360 s361 s362 s363 s364 s365 s366 s367 s368 s369 s370 s371 s372 s373 s374 s375 s376 s377 s378 s379 s380 s381 s382 s383 s384 s385 s386 s387 s388 s389 s390 s391 s392 s393 s394 s395 s396 s397 s398 s399 s400 s401 s402 s403 s404 s405 s406 s407 s408 s409 s410 s411 s412 s413 s414 s415 s416 s417 s418 s419 s420 s421 s422 s423 s424 s425 s426 s427 s428 s429 s430 s431 s432 s433 s434 s435 s436 s437 s438 s439 s440 s441 s442 s443 s444 s445 s446 s447 s448 s449 s450 s451 s452 s453 s454 s455 s456 s457 s458 s459 s460 s461 s462 s463 s464 s465 s466 s467 s468 s469 s470 s471 s472 s473 s474 s475 s476 s477 s478 s479 s480 s481 s482 s483 s484 s485 s486 s487 s488 s489 s490 s491 s492 s493 s494 s495 s496 s497 s498 s499 s500 : Value)
    (hexit : ∀ (u4 u23 u24 u25 u278 u279 u280 u281 u282 u283 u284 u285 u286 u287 u288 u289 u290 u291 u292 u293 u294 u295 u296 u297 u298 u299 u300 u301 u302 u303 u304 u305 u306 u307 u308 u309 u310 u311 u312 : Value) (w' : World), New wB w' →
      Q0 (.exit 8) ⟨List.toArray (s0 :: s1 :: s2 :: s3 :: u4 :: (.pointer (some ⟨gP, 0, none⟩)) :: s6 :: s7 :: (.slice (some ⟨gD, 0, none⟩) N cD) :: s9 :: s10 :: s11 :: s12 :: s13 :: s14 :: (.slice (some ⟨gL, 0, none⟩) N N) :: s16 :: s17 :: s18 :: s19 :: s20 :: s21 :: s22 :: u23 :: u24 :: u25 :: s26 :: s27 :: s28 :: s29 :: s30 :: s31 :: s32 :: s33 :: s34 :: s35 :: s36 :: s37 :: s38 :: s39 :: s40 :: s41 :: s42 :: s43 :: s44 :: s45 :: s46 :: s47 :: s48 :: s49 :: s50 :: s51 :: s52 :: s53 :: s54 :: s55 :: s56 :: s57 :: s58 :: s59 :: s60 :: s61 :: s62 :: s63 :: s64 :: s65 :: s66 :: s67 :: s68 :: s69 :: s70 :: s71 :: s72 :: s73 :: s74 :: s75 :: s76 :: s77 :: s78 :: s79 :: s80 :: s81 :: s82 :: s83 :: s84 :: s85 :: s86 :: s87 :: s88 :: s89 :: s90 :: s91 :: s92 :: s93 :: s94 :: s95 :: s96 :: s97 :: s98 :: s99 :: s100 :: s101 :: s102 :: s103 :: s104 :: s105 :: s106 :: s107 :: s108 :: s109 :: s110 :: s111 :: s112 :: s113 :: s114 :: s115 :: s116 :: s117 :: s118 :: s119 :: s120 :: s121 :: s122 :: s123 :: s124 :: s125 :: s126 :: s127 :: s128 :: s129 :: s130 :: s131 :: s132 :: s133 :: s134 :: s135 :: s136 :: s137 :: s138 :: s139 :: s140 :: s141 :: s142 :: s143 :: s144 :: s145 :: s146 :: s147 :: s148 :: s149 :: s150 :: s151 :: s152 :: s153 :: s154 :: s155 :: s156 :: s157 :: s158 :: s159 :: s160 :: s161 :: s162 :: s163 :: s164 :: s165 :: s166 :: s167 :: s168 :: s169 :: s170 :: s171 :: s172 :: s173 :: s174 :: s175 :: s176 :: s177 :: s178 :: s179 :: s180 :: s181 :: s182 :: s183 :: s184 :: s185 :: s186 :: s187 :: s188 :: s189 :: s190 :: s191 :: s192 :: s193 :: s194 :: s195 :: s196 :: s197 :: s198 :: s199 :: s200 :: s201 :: s202 :: s203 :: s204 :: s205 :: s206 :: s207 :: s208 :: s209 :: s210 :: s211 :: s212 :: s213 :: s214 :: s215 :: s216 :: s217 :: s218 :: s219 :: s220 :: s221 :: s222 :: s223 :: s224 :: s225 :: s226 :: s227 :: s228 :: s229 :: s230 :: s231 :: s232 :: s233 :: s234 :: s235 :: s236 :: s237 :: s238 :: s239 :: s240 :: s241 :: s242 :: s243 :: s244 :: s245 :: s246 :: s247 :: s248 :: s249 :: s250 :: s251 :: s252 :: s253 :: s254 :: s255 :: s256 :: s257 :: s258 :: s259 :: s260 :: s261 :: s262 :: s263 :: s264 :: s265 :: s266 :: s267 :: s268 :: s269 :: s270 :: s271 :: s272 :: s273 :: s274 :: s275 :: s276 :: s277 :: u278 :: u279 :: u280 :: u281 :: u282 :: u283 :: u284 :: u285 :: u286 :: u287 :: u288 :: u289 :: u290 :: u291 :: u292 :: u293 :: u294 :: u295 :: u296 :: u297 :: u298 :: u299 :: u300 :: u301 :: u302 :: u303 :: u304 :: u305 :: u306 :: u307 :: u308 :: u309 :: u310 :: u311 :: u312 :: s313 :: s314 :: s315 :: s316 :: s317 :: s318 :: s319 :: s320 :: s321 :: s322 :: s323 :: s324 :: s325 :: s326 :: s327 :: s328 :: s329 :: s330 :: s331 :: s332 :: s333 :: s334 :: s335 :: s336 :: s337 :: s338 :: s339 :: s340 :: s341 :: s342 :: s343 :: s344 :: s345 :: s346 :: s347 :: s348 :: s349 :: s350 :: s351 :: s352 :: s353 :: s354 :: s355 :: s356 :: s357 :: s358 :: s359 :: s360 :: s361 :: s362 :: s363 :: s364 :: s365 :: s366 :: s367 :: s368 :: s369 :: s370 :: s371 :: s372 :: s373 :: s374 :: s375 :: s376 :: s377 :: s378 :: s379 :: s380 :: s381 :: s382 :: s383 :: s384 :: s385 :: s386 :: s387 :: s388 :: s389 :: s390 :: s391 :: s392 :: s393 :: s394 :: s395 :: s396 :: s397 :: s398 :: s399 :: s400 :: s401 :: s402 :: s403 :: s404 :: s405 :: s406 :: s407 :: s408 :: s409 :: s410 :: s411 :: s412 :: s413 :: s414 :: s415 :: s416 :: s417 :: s418 :: s419 :: s420 :: s421 :: s422 :: s423 :: s424 :: s425 :: s426 :: s427 :: s428 :: s429 :: s430 :: s431 :: s432 :: s433 :: s434 :: s435 :: s436 :: s437 :: s438 :: s439 :: s440 :: s441 :: s442 :: s443 :: s444 :: s445 :: s446 :: s447 :: s448 :: s449 :: s450 :: s451 :: s452 :: s453 :: s454 :: s455 :: s456 :: s457 :: s458 :: s459 :: s460 :: s461 :: s462 :: s463 :: s464 :: s465 :: s466 :: s467 :: s468 :: s469 :: s470 :: s471 :: s472 :: s473 :: s474 :: s475 :: s476 :: s477 :: s478 :: s479 :: s480 :: s481 :: s482 :: s483 :: s484 :: s485 :: s486 :: s487 :: s488 :: s489 :: s490 :: s491 :: s492 :: s493 :: s494 :: s495 :: s496 :: s497 :: s498 :: s499 :: s500 :: []), []⟩ w') :
    Code.wp Try.prog (Code.loop ffL3Body) Q0 ⟨List.toArray (s0 :: s1 :: s2 :: s3 :: s4 :: (.pointer (some ⟨gP, 0, none⟩)) :: s6 :: s7 :: (.slice (some ⟨gD, 0, none⟩) N cD) :: s9 :: s10 :: s11 :: s12 :: s13 :: s14 :: (.slice (some ⟨gL, 0, none⟩) N N) :: s16 :: s17 :: s18 :: s19 :: s20 :: s21 :: s22 :: (.int .i64 0) :: s24 :: s25 :: s26 :: s27 :: s28 :: s29 :: s30 :: s31 :: s32 :: s33 :: s34 :: s35 :: s36 :: s37 :: s38 :: s39 :: s40 :: s41 :: s42 :: s43 :: s44 :: s45 :: s46 :: s47 :: s48 :: s49 :: s50 :: s51 :: s52 :: s53 :: s54 :: s55 :: s56 :: s57 :: s58 :: s59 :: s60 :: s61 :: s62 :: s63 :: s64 :: s65 :: s66 :: s67 :: s68 :: s69 :: s70 :: s71 :: s72 :: s73 :: s74 :: s75 :: s76 :: s77 :: s78 :: s79 :: s80 :: s81 :: s82 :: s83 :: s84 :: s85 :: s86 :: s87 :: s88 :: s89 :: s90 :: s91 :: s92 :: s93 :: s94 :: s95 :: s96 :: s97 :: s98 :: s99 :: s100 :: s101 :: s102 :: s103 :: s104 :: s105 :: s106 :: s107 :: s108 :: s109 :: s110 :: s111 :: s112 :: s113 :: s114 :: s115 :: s116 :: s117 :: s118 :: s119 :: s120 :: s121 :: s122 :: s123 :: s124 :: s125 :: s126 :: s127 :: s128 :: s129 :: s130 :: s131 :: s132 :: s133 :: s134 :: s135 :: s136 :: s137 :: s138 :: s139 :: s140 :: s141 :: s142 :: s143 :: s144 :: s145 :: s146 :: s147 :: s148 :: s149 :: s150 :: s151 :: s152 :: s153 :: s154 :: s155 :: s156 :: s157 :: s158 :: s159 :: s160 :: s161 :: s162 :: s163 :: s164 :: s165 :: s166 :: s167 :: s168 :: s169 :: s170 :: s171 :: s172 :: s173 :: s174 :: s175 :: s176 :: s177 :: s178 :: s179 :: s180 :: s181 :: s182 :: s183 :: s184 :: s185 :: s186 :: s187 :: s188 :: s189 :: s190 :: s191 :: s192 :: s193 :: s194 :: s195 :: s196 :: s197 :: s198 :: s199 :: s200 :: s201 :: s202 :: s203 :: s204 :: s205 :: s206 :: s207 :: s208 :: s209 :: s210 :: s211 :: s212 :: s213 :: s214 :: s215 :: s216 :: s217 :: s218 :: s219 :: s220 :: s221 :: s222 :: s223 :: s224 :: s225 :: s226 :: s227 :: s228 :: s229 :: s230 :: s231 :: s232 :: s233 :: s234 :: s235 :: s236 :: s237 :: s238 :: s239 :: s240 :: s241 :: s242 :: s243 :: s244 :: s245 :: s246 :: s247 :: s248 :: s249 :: s250 :: s251 :: s252 :: s253 :: s254 :: s255 :: s256 :: s257 :: s258 :: s259 :: s260 :: s261 :: s262 :: s263 :: s264 :: s265 :: s266 :: s267 :: s268 :: s269 :: s270 :: s271 :: s272 :: s273 :: s274 :: s275 :: s276 :: s277 :: s278 :: s279 :: s280 :: s281 :: s282 :: s283 :: s284 :: s285 :: s286 :: s287 :: s288 :: s289 :: s290 :: s291 :: s292 :: s293 :: s294 :: s295 :: s296 :: s297 :: s298 :: s299 :: s300 :: s301 :: s302 :: s303 :: s304 :: s305 :: s306 :: s307 :: s308 :: s309 :: s310 :: s311 :: s312 :: s313 :: s314 :: s315 :: s316 :: s317 :: s318 :: s319 :: s320 :: s321 :: s322 :: s323 :: s324 :: s325 :: s326 :: s327 :: s328 :: s329 :: s330 :: s331 :: s332 :: s333 :: s334 :: s335 :: s336 :: s337 :: s338 :: s339 :: s340 :: s341 :: s342 :: s343 :: s344 :: s345 :: s346 :: s347 :: s348 :: s349 :: s350 :: s351 :: s352 :: s353 :: s354 :: s355 :: s356 :: s357 :: s358 :: s359 :: s360 :: s361 :: s362 :: s363 :: s364 :: s365 :: s366 :: s367 :: s368 :: s369 :: s370 :: s371 :: s372 :: s373 :: s374 :: s375 :: s376 :: s377 :: s378 :: s379 :: s380 :: s381 :: s382 :: s383 :: s384 :: s385 :: s386 :: s387 :: s388 :: s389 :: s390 :: s391 :: s392 :: s393 :: s394 :: s395 :: s396 :: s397 :: s398 :: s399 :: s400 :: s401 :: s402 :: s403 :: s404 :: s405 :: s406 :: s407 :: s408 :: s409 :: s410 :: s411 :: s412 :: s413 :: s414 :: s415 :: s416 :: s417 :: s418 :: s419 :: s420 :: s421 :: s422 :: s423 :: s424 :: s425 :: s426 :: s427 :: s428 :: s429 :: s430 :: s431 :: s432 :: s433 :: s434 :: s435 :: s436 :: s437 :: s438 :: s439 :: s440 :: s441 :: s442 :: s443 :: s444 :: s445 :: s446 :: s447 :: s448 :: s449 :: s450 :: s451 :: s452 :: s453 :: s454 :: s455 :: s456 :: s457 :: s458 :: s459 :: s460 :: s461 :: s462 :: s463 :: s464 :: s465 :: s466 :: s467 :: s468 :: s469 :: s470 :: s471 :: s472 :: s473 :: s474 :: s475 :: s476 :: s477 :: s478 :: s479 :: s480 :: s481 :: s482 :: s483 :: s484 :: s485 :: s486 :: s487 :: s488 :: s489 :: s490 :: s491 :: s492 :: s493 :: s494 :: s495 :: s496 :: s497 :: s498 :: s499 :: s500 :: []), []⟩ w9 := by
  conv => arg 2; arg 1; whnf
  replace hN := hide hN
  go_loopw [23] (fun x wq => ∃ i : Nat, i ≤ N ∧ x = .int .i64 i ∧ New wB wq) (fun x _ => N - (intOf x).toNat)
  case atStart => exact ⟨0, by omega, rfl, hN9⟩
  case round =>
    obtain ⟨i, hi, rfl, hnw⟩ := hrel
    by_cases hlt : i < N
    · have hiN : i < fsN a b f 144 := by rw [hN.out]; exact hlt
      obtain ⟨s, hs⟩ : ∃ s, Hid (selG (fsP a b f) 144 i = s) := ⟨_, rfl⟩
      have hsP : fsP a b f s = true := by rw [← hs.out]; exact (selG_lt (p := fsP a b f) 144 i hiN).2
      have hrf := row_first ha.2 hb.2 hsP
      have hsc := cellN_e.1 (fsP_cell hsP)
      obtain ⟨M, hM⟩ : ∃ M, Hid (fsM a b f 144 i = M) := ⟨_, rfl⟩
      have hM0 : 0 < M := by rw [← hM.out]; show 0 < fldM a b f (selG (fsP a b f) 144 i); rw [hs.out]; exact hrf.1
      have hM144 : M ≤ 144 := by rw [← hM.out]; exact fsM_le a b f 144 i
      have hN144 : N ≤ 144 := by rw [← hN.out]; exact fsN_le a b f 144
      have hF0 : Hid (fsF a b f 144 i 0 = (s : Int)) := by
        show ((selG (inF (fldQ a b f (selG (fsP a b f) 144 i))) 144 0 : Nat) : Int) = s
        rw [hs.out, hrf.2]
      have hfc : Hid (fC a b f ((s : Int) % 12) ((s : Int) / 12) = 0) := by
        show codeB _ _ = 0
        rw [hok.out, show isCellB ((s : Int) % 12) ((s : Int) / 12) a b = true by unfold isCellB; rw [Bool.and_eq_true, inB_t, inB_t]; omega]
        rfl
      obtain ⟨V, hV⟩ : ∃ V, Hid (outU a b f 144 0 i = V) := ⟨_, rfl⟩
      have hov : Hid (outV a b f ((s : Int) % 12) ((s : Int) / 12) = V) := by
        show _ = _
        rw [← hV.out, outU_end]
        unfold outV
        rw [if_pos hfc.out]
        unfold fQ rowQ
        rw [show ((s : Int) % 12 + 12 * ((s : Int) / 12)).toNat = s by omega, hs.out]
      have hs145 : (s : Int) < 144 := by omega
      obtain ⟨g1, cur1, hg1, o1, l1, e1⟩ := hrr.out.slot hlt
      cases hg1
      obtain ⟨x1, y1, z1, hs1⟩ := (hrr.out.row hlt).reads
      rw [z1, hM.out] at e1
      rw [hM.out] at hs1
      obtain ⟨g2, cur2, rfl, o2, e2⟩ := hs1 0 hM0
      rw [hF0.out] at e2
      obtain ⟨l2, e2⟩ := Array.getElem?_eq_some_iff.1 e2
      have p1 := (hnw.objs _ (obj_lt o1)).trans o1
      have p2 := (hnw.objs _ (obj_lt o2)).trans o2
      have p3 := (hnw.objs _ (obj_lt oP.out)).trans oP.out
      have q1 := obj_lt p1
      have q2 := obj_lt p2
      have q3 := obj_lt p3
      have lL := obj_lt oL.out
      have hV' := hV.out
      have hlt' : (i : Int) < N := by omega
      clear hM hsP hrf hs1 z1 o1 o2 hs hsc hF0 hiN
      go_wp2_with (fail)
      go_wp2_with (fail)
      refine wp_region_new (by kernel_rfl) (by kernel_rfl) ?_
      repeat (go_big_quiet_step (first | fail | (go_at_call 12; with_reducible exact calls_new (outline_k a b f _ _ V hov.out hfc.out ⟨by omega, by omega⟩ ⟨by omega, by omega⟩ hf _))))
      refine wpQuiet_nil ?_
      intro w1 hc1
      have hn1 := NewW.of hc1
      clear hc1
      have ho1 := hn1.objs
      have hz1 := hn1.le
      try simp at hz1
      have k1_0 : gD < w1.heap.size := by omega
      have k1_1 : g2 < w1.heap.size := by omega
      have k1_2 : gP < w1.heap.size := by omega
      have hnw1 := hnw.trans hn1
      have p4 := (hnw1.objs _ lL).trans oL.out
      have q4 := obj_lt p4
      have hne : (V != V) = false := by simp
      clear p1 p2 p3 q1 q2 q3 ho1
      go_wp2_with (fail)
      go_roundw
      case rel => exact ⟨i + 1, by omega, by go_num, hnw1⟩
      case measure => simp [intOf]; omega
    · have hc4 : i = N := by omega
      go_wp2_with (fail)
      exact hnw
end Go.Proofs.Ytmmckoemkpfgbaa
