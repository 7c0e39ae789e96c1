/- A loop of laws.FnPictures, cut out: a theorem of its own over a frame of letters; no condition. -/
import Derived.Test.YtomfjicjejoakaaDoorU11
set_option linter.unusedVariables false
namespace Go.Proofs.YtomfjicjejoakaaDoor
open Go.BigFrame
open Go.RowKit Go.Arr
noncomputable def ppLpBody : Code := loopIn (Tryd.f3.body.getD .skip) 0
set_option maxHeartbeats 4000000 in
set_option maxRecDepth 1000000 in
theorem ppLp (a b : Int) (q M F T1 T2 T3 : Nat → Int) (L1 L2 L3 L4 : Array Value) (gN gL : Nat) (wB w9 : World) (ha : 1 ≤ a ∧ a ≤ 12) (hb : 1 ≤ b ∧ b ≤ 12) (hqb : Hid (∀ i, 0 ≤ q i ∧ q i ≤ 255)) (E : Hid (PpSym a b q M F T1 T2 T3)) (hL : Hid (Lists (pic 144 b a T1) (pic 144 a b T2) (pic 144 b a T3) (pic 144 a b q) L1 L2 L3 L4))
    (hgN2 : wB.heap.size ≤ gN) (hNL : gN < gL) (oN0 : obj w9 gN = some (.cells (pic 144 a b q) 27)) (oL0 : obj w9 gL = some (.cells zl 35)) (hN9 : New wB w9)
    (Q0 : Exit → Act → World → Prop) (s0 s1 s2 s3 s4 s5 s6 s7 s8 s9 s10 s11 s12 s13 s14 s15 s16 s17 s18 s19 s23 s24 s25 s26 s27 s28 s29 s30 s31 s32 s33 s34 s35 s36 s37 s38 s39 s40 s41 s42 s43 s44 s45 s46 s47 s48 s49 s50 s51 s52 s53 s54 s55 s56 s57 s58 s59 s60 s61 s62 s63 s64 s65 s66 s67 s68 s69 s70 s71 s72 s73 s74 s75 s76 s77 s78 s79 s80 s81 s82 s83 s84 s85 s86 s87 s88 s89 s90 s91 s92 s93 s94 s95 s96 s97 s98 s99 s100 s101 s102 s103 s104 s105 s106 s107 s108 s109 s110 s111 s112 s113 s114 s115 s116 s117 s118 s119 s120 s121 s122 s123 s124 s125 s126 s127 s128 s129 s130 s131 s132 s133 s134 s135 s136 s137 s138 s139 s140 s141 s142 s143 s144 s145 s146 s147 s148 s149 s150 s151 s152 s153 s154 s155 s156 s157 s158 s159 s160 s161 s162 s163 s164 s165 s166 s167 s168 s169 s170 s171 s172 s173 s174 s175 s176 s177 s178 s179 s180 s181 s182 s183 s184 s185 s186 s187 s188 s189 s190 s191 s192 s193 s194 s195 s196 s197 s198 s199 s200 s201 s202 s203 s204 s205 s206 s207 s208 s209 s210 s211 s212 s213 s214 s215 s216 s217 s218 s219 s220 s221 s222 s223 s224 s225 s226 s227 s228 s229 s230 s231 s232 s233 s234 s235 s236 s237 s238 s239 s240 s241 s242 s243 s244 s245 s246 s247 s248 s249 s250 s251 s252 s253 s254 s255 s256 s257 s258 s259 s260 s261 s262 s263 s264 s265 s266 s267 s268 s269 s270 s271 s272 s273 s274 s275 s276 s277 s278 s279 s280 s281 s282 s283 s284 s285 s286 s287 s288 s289 s290 s291 s292 s293 s294 s295 s296 s297 s298 s299 s300 s301 s302 s303 s304 s305 s306 s307 s308 s309 s310 s311 s312 s313 s314 s315 s316 s317 s318 s319 s320 s321 s322 s323 s324 s325 s326 s327 s328 s329 s330 s331 s332 s333 s334 s335 s336 s337 s338 s339 s340 s341 s342 s343 s344 s345 s346 s347 s348 s349 s350 s351 s352 s353 s354 s355 s356 s357 s358 s359 s360 s361 s362 s363 s364 s365 s366 s367 s368 s369 s370 s371 s372 s373 s374 s375 s376 s377 s378 s379 s380 s381 s382 s383 s384 s385 s386 s387 s388 s389 s390 s391 s392 s393 s394 s395 s396 s397 s398 s399 s400 s401 s402 s403 s404 s405 s406 s407 s408 s409 s410 s411 s412 s413 s414 s415 s416 s417 s418 s419 s420 s421 s422 s423 s424 s425 s426 s427 s428 s429 s430 s431 s432 s433 s434 s435 s436 s437 s438 s439 s440 s441 s442 s443 s444 s445 s446 s447 s448 s449 s450 s451 s452 s453 s454 s455 s456 s457 s458 s459 s460 s461 s462 s463 s464 s465 s466 s467 s468 s469 s470 s471 s472 s473 s474 s475 s476 : Value)
    (hexit : ∀ (u4 u22 u23 u24 u25 u26 u169 u170 u171 u172 u173 u174 u175 u176 u177 u178 u179 u180 u181 u182 u183 u184 u185 u186 u187 u188 u189 u190 u191 u192 u193 u194 u195 u196 u197 u198 : Value) (w' : World), obj w' gN = some (.cells (pic 144 a b q) 27) → obj w' gL = some (.cells L4 35) → New wB w' →
      Q0 (.exit 0) ⟨List.toArray (s0 :: s1 :: s2 :: s3 :: u4 :: s5 :: s6 :: s7 :: s8 :: s9 :: s10 :: s11 :: s12 :: s13 :: s14 :: s15 :: s16 :: s17 :: s18 :: s19 :: (.pointer (some ⟨gN, 0, none⟩)) :: (.pointer (some ⟨gL, 0, none⟩)) :: u22 :: u23 :: u24 :: u25 :: u26 :: s27 :: s28 :: s29 :: s30 :: s31 :: s32 :: s33 :: s34 :: s35 :: s36 :: s37 :: s38 :: s39 :: s40 :: s41 :: s42 :: s43 :: s44 :: s45 :: s46 :: s47 :: s48 :: s49 :: s50 :: s51 :: s52 :: s53 :: s54 :: s55 :: s56 :: s57 :: s58 :: s59 :: s60 :: s61 :: s62 :: s63 :: s64 :: s65 :: s66 :: s67 :: s68 :: s69 :: s70 :: s71 :: s72 :: s73 :: s74 :: s75 :: s76 :: s77 :: s78 :: s79 :: s80 :: s81 :: s82 :: s83 :: s84 :: s85 :: s86 :: s87 :: s88 :: s89 :: s90 :: s91 :: s92 :: s93 :: s94 :: s95 :: s96 :: s97 :: s98 :: s99 :: s100 :: s101 :: s102 :: s103 :: s104 :: s105 :: s106 :: s107 :: s108 :: s109 :: s110 :: s111 :: s112 :: s113 :: s114 :: s115 :: s116 :: s117 :: s118 :: s119 :: s120 :: s121 :: s122 :: s123 :: s124 :: s125 :: s126 :: s127 :: s128 :: s129 :: s130 :: s131 :: s132 :: s133 :: s134 :: s135 :: s136 :: s137 :: s138 :: s139 :: s140 :: s141 :: s142 :: s143 :: s144 :: s145 :: s146 :: s147 :: s148 :: s149 :: s150 :: s151 :: s152 :: s153 :: s154 :: s155 :: s156 :: s157 :: s158 :: s159 :: s160 :: s161 :: s162 :: s163 :: s164 :: s165 :: s166 :: s167 :: s168 :: u169 :: u170 :: u171 :: u172 :: u173 :: u174 :: u175 :: u176 :: u177 :: u178 :: u179 :: u180 :: u181 :: u182 :: u183 :: u184 :: u185 :: u186 :: u187 :: u188 :: u189 :: u190 :: u191 :: u192 :: u193 :: u194 :: u195 :: u196 :: u197 :: u198 :: s199 :: s200 :: s201 :: s202 :: s203 :: s204 :: s205 :: s206 :: s207 :: s208 :: s209 :: s210 :: s211 :: s212 :: s213 :: s214 :: s215 :: s216 :: s217 :: s218 :: s219 :: s220 :: s221 :: s222 :: s223 :: s224 :: s225 :: s226 :: s227 :: s228 :: s229 :: s230 :: s231 :: s232 :: s233 :: s234 :: s235 :: s236 :: s237 :: s238 :: s239 :: s240 :: s241 :: s242 :: s243 :: s244 :: s245 :: s246 :: s247 :: s248 :: s249 :: s250 :: s251 :: s252 :: s253 :: s254 :: s255 :: s256 :: s257 :: s258 :: s259 :: s260 :: s261 :: s262 :: s263 :: s264 :: s265 :: s266 :: s267 :: s268 :: s269 :: s270 :: s271 :: s272 :: s273 :: s274 :: s275 :: s276 :: s277 :: s278 :: s279 :: s280 :: s281 :: s282 :: s283 :: s284 :: s285 :: s286 :: s287 :: s288 :: s289 :: s290 :: s291 :: s292 :: s293 :: s294 :: s295 :: s296 :: s297 :: s298 :: s299 :: s300 :: s301 :: s302 :: s303 :: s304 :: s305 :: s306 :: s307 :: s308 :: s309 :: s310 :: s311 :: s312 :: s313 :: s314 :: s315 :: s316 :: s317 :: s318 :: s319 :: s320 :: s321 :: s322 :: s323 :: s324 :: s325 :: s326 :: s327 :: s328 :: s329 :: s330 :: s331 :: s332 :: s333 :: s334 :: s335 :: s336 :: s337 :: s338 :: s339 :: s340 :: s341 :: s342 :: s343 :: s344 :: s345 :: s346 :: s347 :: s348 :: s349 :: s350 :: s351 :: s352 :: s353 :: s354 :: s355 :: s356 :: s357 :: s358 :: s359 :: s360 :: s361 :: s362 :: s363 :: s364 :: s365 :: s366 :: s367 :: s368 :: s369 :: s370 :: s371 :: s372 :: s373 :: s374 :: s375 :: s376 :: s377 :: s378 :: s379 :: s380 :: s381 :: s382 :: s383 :: s384 :: s385 :: s386 :: s387 :: s388 :: s389 :: s390 :: s391 :: s392 :: s393 :: s394 :: s395 :: s396 :: s397 :: s398 :: s399 :: s400 :: s401 :: s402 :: s403 :: s404 :: s405 :: s406 :: s407 :: s408 :: s409 :: s410 :: s411 :: s412 :: s413 :: s414 :: s415 :: s416 :: s417 :: s418 :: s419 :: s420 :: s421 :: s422 :: s423 :: s424 :: s425 :: s426 :: s427 :: s428 :: s429 :: s430 :: s431 :: s432 :: s433 :: s434 :: s435 :: s436 :: s437 :: s438 :: s439 :: s440 :: s441 :: s442 :: s443 :: s444 :: s445 :: s446 :: s447 :: s448 :: s449 :: s450 :: s451 :: s452 :: s453 :: s454 :: s455 :: s456 :: s457 :: s458 :: s459 :: s460 :: s461 :: s462 :: s463 :: s464 :: s465 :: s466 :: s467 :: s468 :: s469 :: s470 :: s471 :: s472 :: s473 :: s474 :: s475 :: s476 :: []), []⟩ w') :
    Code.wp Tryd.prog (Code.loop ppLpBody) Q0 ⟨List.toArray (s0 :: s1 :: s2 :: s3 :: s4 :: s5 :: s6 :: s7 :: s8 :: s9 :: s10 :: s11 :: s12 :: s13 :: s14 :: s15 :: s16 :: s17 :: s18 :: s19 :: (.pointer (some ⟨gN, 0, none⟩)) :: (.pointer (some ⟨gL, 0, none⟩)) :: (.int .i64 0) :: s23 :: s24 :: s25 :: s26 :: s27 :: s28 :: s29 :: s30 :: s31 :: s32 :: s33 :: s34 :: s35 :: s36 :: s37 :: s38 :: s39 :: s40 :: s41 :: s42 :: s43 :: s44 :: s45 :: s46 :: s47 :: s48 :: s49 :: s50 :: s51 :: s52 :: s53 :: s54 :: s55 :: s56 :: s57 :: s58 :: s59 :: s60 :: s61 :: s62 :: s63 :: s64 :: s65 :: s66 :: s67 :: s68 :: s69 :: s70 :: s71 :: s72 :: s73 :: s74 :: s75 :: s76 :: s77 :: s78 :: s79 :: s80 :: s81 :: s82 :: s83 :: s84 :: s85 :: s86 :: s87 :: s88 :: s89 :: s90 :: s91 :: s92 :: s93 :: s94 :: s95 :: s96 :: s97 :: s98 :: s99 :: s100 :: s101 :: s102 :: s103 :: s104 :: s105 :: s106 :: s107 :: s108 :: s109 :: s110 :: s111 :: s112 :: s113 :: s114 :: s115 :: s116 :: s117 :: s118 :: s119 :: s120 :: s121 :: s122 :: s123 :: s124 :: s125 :: s126 :: s127 :: s128 :: s129 :: s130 :: s131 :: s132 :: s133 :: s134 :: s135 :: s136 :: s137 :: s138 :: s139 :: s140 :: s141 :: s142 :: s143 :: s144 :: s145 :: s146 :: s147 :: s148 :: s149 :: s150 :: s151 :: s152 :: s153 :: s154 :: s155 :: s156 :: s157 :: s158 :: s159 :: s160 :: s161 :: s162 :: s163 :: s164 :: s165 :: s166 :: s167 :: s168 :: s169 :: s170 :: s171 :: s172 :: s173 :: s174 :: s175 :: s176 :: s177 :: s178 :: s179 :: s180 :: s181 :: s182 :: s183 :: s184 :: s185 :: s186 :: s187 :: s188 :: s189 :: s190 :: s191 :: s192 :: s193 :: s194 :: s195 :: s196 :: s197 :: s198 :: s199 :: s200 :: s201 :: s202 :: s203 :: s204 :: s205 :: s206 :: s207 :: s208 :: s209 :: s210 :: s211 :: s212 :: s213 :: s214 :: s215 :: s216 :: s217 :: s218 :: s219 :: s220 :: s221 :: s222 :: s223 :: s224 :: s225 :: s226 :: s227 :: s228 :: s229 :: s230 :: s231 :: s232 :: s233 :: s234 :: s235 :: s236 :: s237 :: s238 :: s239 :: s240 :: s241 :: s242 :: s243 :: s244 :: s245 :: s246 :: s247 :: s248 :: s249 :: s250 :: s251 :: s252 :: s253 :: s254 :: s255 :: s256 :: s257 :: s258 :: s259 :: s260 :: s261 :: s262 :: s263 :: s264 :: s265 :: s266 :: s267 :: s268 :: s269 :: s270 :: s271 :: s272 :: s273 :: s274 :: s275 :: s276 :: s277 :: s278 :: s279 :: s280 :: s281 :: s282 :: s283 :: s284 :: s285 :: s286 :: s287 :: s288 :: s289 :: s290 :: s291 :: s292 :: s293 :: s294 :: s295 :: s296 :: s297 :: s298 :: s299 :: s300 :: s301 :: s302 :: s303 :: s304 :: s305 :: s306 :: s307 :: s308 :: s309 :: s310 :: s311 :: s312 :: s313 :: s314 :: s315 :: s316 :: s317 :: s318 :: s319 :: s320 :: s321 :: s322 :: s323 :: s324 :: s325 :: s326 :: s327 :: s328 :: s329 :: s330 :: s331 :: s332 :: s333 :: s334 :: s335 :: s336 :: s337 :: s338 :: s339 :: s340 :: s341 :: s342 :: s343 :: s344 :: s345 :: s346 :: s347 :: s348 :: s349 :: s350 :: s351 :: s352 :: s353 :: s354 :: s355 :: s356 :: s357 :: s358 :: s359 :: s360 :: s361 :: s362 :: s363 :: s364 :: s365 :: s366 :: s367 :: s368 :: s369 :: s370 :: s371 :: s372 :: s373 :: s374 :: s375 :: s376 :: s377 :: s378 :: s379 :: s380 :: s381 :: s382 :: s383 :: s384 :: s385 :: s386 :: s387 :: s388 :: s389 :: s390 :: s391 :: s392 :: s393 :: s394 :: s395 :: s396 :: s397 :: s398 :: s399 :: s400 :: s401 :: s402 :: s403 :: s404 :: s405 :: s406 :: s407 :: s408 :: s409 :: s410 :: s411 :: s412 :: s413 :: s414 :: s415 :: s416 :: s417 :: s418 :: s419 :: s420 :: s421 :: s422 :: s423 :: s424 :: s425 :: s426 :: s427 :: s428 :: s429 :: s430 :: s431 :: s432 :: s433 :: s434 :: s435 :: s436 :: s437 :: s438 :: s439 :: s440 :: s441 :: s442 :: s443 :: s444 :: s445 :: s446 :: s447 :: s448 :: s449 :: s450 :: s451 :: s452 :: s453 :: s454 :: s455 :: s456 :: s457 :: s458 :: s459 :: s460 :: s461 :: s462 :: s463 :: s464 :: s465 :: s466 :: s467 :: s468 :: s469 :: s470 :: s471 :: s472 :: s473 :: s474 :: s475 :: s476 :: []), []⟩ w9 := by
  conv => arg 2; arg 1; whnf
  have hgL2 : wB.heap.size ≤ gL := by omega
  have ql := obj_lt oL0
  go_loopw [22] (fun x wq => ∃ k : Nat, x = .int .i64 k ∧ New wB wq ∧ gL < wq.heap.size ∧ ((k = 0 ∧ Hid (obj wq gN = some (.cells (pic 144 a b q) 27)) ∧ Hid (obj wq gL = some (.cells zl 35))) ∨ (k = 1 ∧ Hid (obj wq gN = some (.cells (pic 144 b a T1) 27)) ∧ Hid (obj wq gL = some (.cells L1 35))) ∨ (k = 2 ∧ Hid (obj wq gN = some (.cells (pic 144 a b T2) 27)) ∧ Hid (obj wq gL = some (.cells L2 35))) ∨ (k = 3 ∧ Hid (obj wq gN = some (.cells (pic 144 b a T3) 27)) ∧ Hid (obj wq gL = some (.cells L3 35))) ∨ (k = 4 ∧ Hid (obj wq gN = some (.cells (pic 144 a b q) 27)) ∧ Hid (obj wq gL = some (.cells L4 35))))) (fun x _ => 4 - (intOf x).toNat)
  case atStart => exact ⟨0, rfl, hN9, ql, Or.inl ⟨rfl, oN0, oL0⟩⟩
  case round =>
    clear oN0 oL0 hN9 ql
    obtain ⟨k, rfl, hnw, hlw, hst⟩ := hrel
    rcases hst with ⟨rfl, hoN, hoL⟩ | ⟨rfl, hoN, hoL⟩ | ⟨rfl, hoN, hoL⟩ | ⟨rfl, hoN, hoL⟩ | ⟨rfl, hoN, hoL⟩
    · have oN0 := hoN.out
      have oL0 := hoL.out
      have qN0 := obj_lt oN0
      have qL0 := obj_lt oL0
      clear hoN hoL
      have hEt := eqPic_self b a T1
      have hs0 := hL.out.s0
      have hzz := size_zl
      go_wp2_with (fail)
      refine (E.out.t1.calls (turn_impl a b q ⟨by omega, by omega⟩ ⟨by omega, by omega⟩ hqb.out _)).mono ?_
      rintro e w1 ⟨rfl, hn1⟩
      have oN1 := (hn1.objs _ qN0).trans oN0
      have qN1 := obj_lt oN1
      clear oN0 qN0
      have oL1 := (hn1.objs _ qL0).trans oL0
      have qL1 := obj_lt oL1
      clear oL0 qL0
      have N1 := hnw.trans hn1
      clear hnw
      clear hn1
      go_wp2_with (fail)
      generalize hw2 : World.alloc w1 (Obj.cells (pic 144 b a T1) 27) = w2
      obtain ⟨gI, hgI⟩ : ∃ gI, Hid (w1.heap.size = gI) := ⟨_, rfl⟩
      have oI2 : obj w2 gI = some (.cells (pic 144 b a T1) 27) := by rw [← hw2, ← hgI.out]; exact obj_alloc_at _ _ _ rfl
      have oN2 := (show obj w2 gN = obj w1 gN by rw [← hw2]; exact obj_alloc_past _ _ _ qN1).trans oN1
      have qN2 := obj_lt oN2
      clear oN1 qN1
      have oL2 := (show obj w2 gL = obj w1 gL by rw [← hw2]; exact obj_alloc_past _ _ _ qL1).trans oL1
      have qL2 := obj_lt oL2
      clear oL1 qL1
      have hn2 : New w1 w2 := by rw [← hw2]; exact (New.refl _).alloc _
      have N2 := N1.trans hn2
      clear N1
      have qI2 := obj_lt oI2
      rw [hgI.out]
      clear hw2 hgI hn2
      refine (E.out.t1.calls (turn_spec a b q ⟨by omega, by omega⟩ ⟨by omega, by omega⟩ hqb.out _)).mono ?_
      rintro e w3 ⟨rfl, hn3⟩
      have oN3 := (hn3.objs _ qN2).trans oN2
      have qN3 := obj_lt oN3
      clear oN2 qN2
      have oL3 := (hn3.objs _ qL2).trans oL2
      have qL3 := obj_lt oL3
      clear oL2 qL2
      have oI3 := (hn3.objs _ qI2).trans oI2
      have qI3 := obj_lt oI3
      clear oI2 qI2
      have N3 := N2.trans hn3
      clear N2
      clear hn3
      have hle := N3.le
      have z1 : gN ≠ w3.heap.size := by omega
      have z2 : gL ≠ w3.heap.size := by omega
      have z3 : w3.heap.size ≠ gN := by omega
      have z4 : w3.heap.size ≠ gL := by omega
      have z5 : gL ≠ gN := by omega
      have z6 : gN ≠ gL := by omega
      go_wp2_with (fail)
      go_roundw
      case rel =>
        refine ⟨1, by go_num, ((N3.setRow (by omega) _).setRow (by omega) _).alloc _, by simp; omega, Or.inr (Or.inl ⟨rfl, ?_, ?_⟩)⟩
        · show _ = _
          rw [obj_alloc_past _ _ _ (by rw [size_setRow, size_setRow]; omega), obj_setRow_other _ _ _ _ (by omega), obj_setRow_same, oN3]
          try simp only [Option.map_some, reCells_cells]
        · show _ = _
          rw [obj_alloc_past _ _ _ (by rw [size_setRow, size_setRow]; omega), obj_setRow_same, obj_setRow_other _ _ _ _ (by omega), oL3]
          try simp only [Option.map_some, reCells_cells]
      case measure => first | done | simp [intOf]
    · have oN0 := hoN.out
      have oL0 := hoL.out
      have qN0 := obj_lt oN0
      have qL0 := obj_lt oL0
      clear hoN hoL
      have hEt := eqPic_self a b T2
      have hs1 := hL.out.s1
      have hzz := hL.out.z1
      go_wp2_with (fail)
      refine (E.out.t2.calls (turn_impl b a T1 ⟨by omega, by omega⟩ ⟨by omega, by omega⟩ E.out.g1.by _)).mono ?_
      rintro e w1 ⟨rfl, hn1⟩
      have oN1 := (hn1.objs _ qN0).trans oN0
      have qN1 := obj_lt oN1
      clear oN0 qN0
      have oL1 := (hn1.objs _ qL0).trans oL0
      have qL1 := obj_lt oL1
      clear oL0 qL0
      have N1 := hnw.trans hn1
      clear hnw
      clear hn1
      go_wp2_with (fail)
      generalize hw2 : World.alloc w1 (Obj.cells (pic 144 a b T2) 27) = w2
      obtain ⟨gI, hgI⟩ : ∃ gI, Hid (w1.heap.size = gI) := ⟨_, rfl⟩
      have oI2 : obj w2 gI = some (.cells (pic 144 a b T2) 27) := by rw [← hw2, ← hgI.out]; exact obj_alloc_at _ _ _ rfl
      have oN2 := (show obj w2 gN = obj w1 gN by rw [← hw2]; exact obj_alloc_past _ _ _ qN1).trans oN1
      have qN2 := obj_lt oN2
      clear oN1 qN1
      have oL2 := (show obj w2 gL = obj w1 gL by rw [← hw2]; exact obj_alloc_past _ _ _ qL1).trans oL1
      have qL2 := obj_lt oL2
      clear oL1 qL1
      have hn2 : New w1 w2 := by rw [← hw2]; exact (New.refl _).alloc _
      have N2 := N1.trans hn2
      clear N1
      have qI2 := obj_lt oI2
      rw [hgI.out]
      clear hw2 hgI hn2
      refine (E.out.t2.calls (turn_spec b a T1 ⟨by omega, by omega⟩ ⟨by omega, by omega⟩ E.out.g1.by _)).mono ?_
      rintro e w3 ⟨rfl, hn3⟩
      have oN3 := (hn3.objs _ qN2).trans oN2
      have qN3 := obj_lt oN3
      clear oN2 qN2
      have oL3 := (hn3.objs _ qL2).trans oL2
      have qL3 := obj_lt oL3
      clear oL2 qL2
      have oI3 := (hn3.objs _ qI2).trans oI2
      have qI3 := obj_lt oI3
      clear oI2 qI2
      have N3 := N2.trans hn3
      clear N2
      clear hn3
      have hle := N3.le
      have z1 : gN ≠ w3.heap.size := by omega
      have z2 : gL ≠ w3.heap.size := by omega
      have z3 : w3.heap.size ≠ gN := by omega
      have z4 : w3.heap.size ≠ gL := by omega
      have z5 : gL ≠ gN := by omega
      have z6 : gN ≠ gL := by omega
      go_wp2_with (fail)
      go_roundw
      case rel =>
        refine ⟨2, by go_num, ((N3.setRow (by omega) _).setRow (by omega) _).alloc _, by simp; omega, Or.inr (Or.inr (Or.inl ⟨rfl, ?_, ?_⟩))⟩
        · show _ = _
          rw [obj_alloc_past _ _ _ (by rw [size_setRow, size_setRow]; omega), obj_setRow_other _ _ _ _ (by omega), obj_setRow_same, oN3]
          try simp only [Option.map_some, reCells_cells]
        · show _ = _
          rw [obj_alloc_past _ _ _ (by rw [size_setRow, size_setRow]; omega), obj_setRow_same, obj_setRow_other _ _ _ _ (by omega), oL3]
          try simp only [Option.map_some, reCells_cells]
      case measure => first | done | simp [intOf]
    · have oN0 := hoN.out
      have oL0 := hoL.out
      have qN0 := obj_lt oN0
      have qL0 := obj_lt oL0
      clear hoN hoL
      have hEt := eqPic_self b a T3
      have hs2 := hL.out.s2
      have hzz := hL.out.z2
      go_wp2_with (fail)
      refine (E.out.t3.calls (turn_impl a b T2 ⟨by omega, by omega⟩ ⟨by omega, by omega⟩ E.out.g2.by _)).mono ?_
      rintro e w1 ⟨rfl, hn1⟩
      have oN1 := (hn1.objs _ qN0).trans oN0
      have qN1 := obj_lt oN1
      clear oN0 qN0
      have oL1 := (hn1.objs _ qL0).trans oL0
      have qL1 := obj_lt oL1
      clear oL0 qL0
      have N1 := hnw.trans hn1
      clear hnw
      clear hn1
      go_wp2_with (fail)
      generalize hw2 : World.alloc w1 (Obj.cells (pic 144 b a T3) 27) = w2
      obtain ⟨gI, hgI⟩ : ∃ gI, Hid (w1.heap.size = gI) := ⟨_, rfl⟩
      have oI2 : obj w2 gI = some (.cells (pic 144 b a T3) 27) := by rw [← hw2, ← hgI.out]; exact obj_alloc_at _ _ _ rfl
      have oN2 := (show obj w2 gN = obj w1 gN by rw [← hw2]; exact obj_alloc_past _ _ _ qN1).trans oN1
      have qN2 := obj_lt oN2
      clear oN1 qN1
      have oL2 := (show obj w2 gL = obj w1 gL by rw [← hw2]; exact obj_alloc_past _ _ _ qL1).trans oL1
      have qL2 := obj_lt oL2
      clear oL1 qL1
      have hn2 : New w1 w2 := by rw [← hw2]; exact (New.refl _).alloc _
      have N2 := N1.trans hn2
      clear N1
      have qI2 := obj_lt oI2
      rw [hgI.out]
      clear hw2 hgI hn2
      refine (E.out.t3.calls (turn_spec a b T2 ⟨by omega, by omega⟩ ⟨by omega, by omega⟩ E.out.g2.by _)).mono ?_
      rintro e w3 ⟨rfl, hn3⟩
      have oN3 := (hn3.objs _ qN2).trans oN2
      have qN3 := obj_lt oN3
      clear oN2 qN2
      have oL3 := (hn3.objs _ qL2).trans oL2
      have qL3 := obj_lt oL3
      clear oL2 qL2
      have oI3 := (hn3.objs _ qI2).trans oI2
      have qI3 := obj_lt oI3
      clear oI2 qI2
      have N3 := N2.trans hn3
      clear N2
      clear hn3
      have hle := N3.le
      have z1 : gN ≠ w3.heap.size := by omega
      have z2 : gL ≠ w3.heap.size := by omega
      have z3 : w3.heap.size ≠ gN := by omega
      have z4 : w3.heap.size ≠ gL := by omega
      have z5 : gL ≠ gN := by omega
      have z6 : gN ≠ gL := by omega
      go_wp2_with (fail)
      go_roundw
      case rel =>
        refine ⟨3, by go_num, ((N3.setRow (by omega) _).setRow (by omega) _).alloc _, by simp; omega, Or.inr (Or.inr (Or.inr (Or.inl ⟨rfl, ?_, ?_⟩)))⟩
        · show _ = _
          rw [obj_alloc_past _ _ _ (by rw [size_setRow, size_setRow]; omega), obj_setRow_other _ _ _ _ (by omega), obj_setRow_same, oN3]
          try simp only [Option.map_some, reCells_cells]
        · show _ = _
          rw [obj_alloc_past _ _ _ (by rw [size_setRow, size_setRow]; omega), obj_setRow_same, obj_setRow_other _ _ _ _ (by omega), oL3]
          try simp only [Option.map_some, reCells_cells]
      case measure => first | done | simp [intOf]
    · have oN0 := hoN.out
      have oL0 := hoL.out
      have qN0 := obj_lt oN0
      have qL0 := obj_lt oL0
      clear hoN hoL
      have hEt := eqPic_self a b q
      have hs3 := hL.out.s3
      have hzz := hL.out.z3
      go_wp2_with (fail)
      refine (E.out.t4.calls (turn_impl b a T3 ⟨by omega, by omega⟩ ⟨by omega, by omega⟩ E.out.g3.by _)).mono ?_
      rintro e w1 ⟨rfl, hn1⟩
      have oN1 := (hn1.objs _ qN0).trans oN0
      have qN1 := obj_lt oN1
      clear oN0 qN0
      have oL1 := (hn1.objs _ qL0).trans oL0
      have qL1 := obj_lt oL1
      clear oL0 qL0
      have N1 := hnw.trans hn1
      clear hnw
      clear hn1
      go_wp2_with (fail)
      generalize hw2 : World.alloc w1 (Obj.cells (pic 144 a b q) 27) = w2
      obtain ⟨gI, hgI⟩ : ∃ gI, Hid (w1.heap.size = gI) := ⟨_, rfl⟩
      have oI2 : obj w2 gI = some (.cells (pic 144 a b q) 27) := by rw [← hw2, ← hgI.out]; exact obj_alloc_at _ _ _ rfl
      have oN2 := (show obj w2 gN = obj w1 gN by rw [← hw2]; exact obj_alloc_past _ _ _ qN1).trans oN1
      have qN2 := obj_lt oN2
      clear oN1 qN1
      have oL2 := (show obj w2 gL = obj w1 gL by rw [← hw2]; exact obj_alloc_past _ _ _ qL1).trans oL1
      have qL2 := obj_lt oL2
      clear oL1 qL1
      have hn2 : New w1 w2 := by rw [← hw2]; exact (New.refl _).alloc _
      have N2 := N1.trans hn2
      clear N1
      have qI2 := obj_lt oI2
      rw [hgI.out]
      clear hw2 hgI hn2
      refine (E.out.t4.calls (turn_spec b a T3 ⟨by omega, by omega⟩ ⟨by omega, by omega⟩ E.out.g3.by _)).mono ?_
      rintro e w3 ⟨rfl, hn3⟩
      have oN3 := (hn3.objs _ qN2).trans oN2
      have qN3 := obj_lt oN3
      clear oN2 qN2
      have oL3 := (hn3.objs _ qL2).trans oL2
      have qL3 := obj_lt oL3
      clear oL2 qL2
      have oI3 := (hn3.objs _ qI2).trans oI2
      have qI3 := obj_lt oI3
      clear oI2 qI2
      have N3 := N2.trans hn3
      clear N2
      clear hn3
      have hle := N3.le
      have z1 : gN ≠ w3.heap.size := by omega
      have z2 : gL ≠ w3.heap.size := by omega
      have z3 : w3.heap.size ≠ gN := by omega
      have z4 : w3.heap.size ≠ gL := by omega
      have z5 : gL ≠ gN := by omega
      have z6 : gN ≠ gL := by omega
      go_wp2_with (fail)
      go_roundw
      case rel =>
        refine ⟨4, by go_num, ((N3.setRow (by omega) _).setRow (by omega) _).alloc _, by simp; omega, Or.inr (Or.inr (Or.inr (Or.inr ⟨rfl, ?_, ?_⟩)))⟩
        · show _ = _
          rw [obj_alloc_past _ _ _ (by rw [size_setRow, size_setRow]; omega), obj_setRow_other _ _ _ _ (by omega), obj_setRow_same, oN3]
          try simp only [Option.map_some, reCells_cells]
        · show _ = _
          rw [obj_alloc_past _ _ _ (by rw [size_setRow, size_setRow]; omega), obj_setRow_same, obj_setRow_other _ _ _ _ (by omega), oL3]
          try simp only [Option.map_some, reCells_cells]
      case measure => first | done | simp [intOf]
    · have oN0 := hoN.out
      have oL0 := hoL.out
      go_wp2_with (fail)
      exact hexit _ _ _ _ _ _ _ _ _ _ _ _ _ _ _ _ _ _ _ _ _ _ _ _ _ _ _ _ _ _ _ _ _ _ _ _ _ oN0 oL0 hnw
end Go.Proofs.YtomfjicjejoakaaDoor
