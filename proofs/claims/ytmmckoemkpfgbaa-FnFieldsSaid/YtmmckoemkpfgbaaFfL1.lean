/- A loop of laws.FnFields, cut out: a theorem of its own over a frame of letters; no condition. -/
import Derived.Test.YtmmckoemkpfgbaaLop
import Derived.Test.YtmmckoemkpfgbaaFfQ
import Derived.Test.YtmmckoemkpfgbaaFfA
set_option linter.unusedVariables false
namespace Go.Proofs.Ytmmckoemkpfgbaa
open Go.BigFrame
open Go.RowKit Go.Arr
theorem agg33 : AggTy Try.prog 33 144 := ⟨⟨_, Try.underlying33, rfl⟩, by kernel_rfl⟩
theorem zero33 (w : World) : (zeroValue 33).run Try.prog w = .ok (.agg (arr 144 .i64 fun _ => 0)) w := by kernel_rfl
theorem lv33 : loadVar 33 = aggLoad 33 := rfl
theorem sv33 : storeVar 33 = aggStore 33 := rfl
theorem ld33 (g off : Nat) (w : World) : (aggLoad 33 ⟨g, off, none⟩).run Try.prog w = segOr (obj w g) off 144 w ((aggLoadOld 33 ⟨g, off, none⟩).run Try.prog w) := run_aggLoad 33 144 _ Try.underlying33 rfl (by kernel_rfl) g off w
theorem st33 (g off : Nat) (v : Value) (w : World) : (aggStore 33 ⟨g, off, none⟩ v).run Try.prog w = segStoreOr (obj w g) g off 144 v w ((aggStoreOld 33 ⟨g, off, none⟩ v).run Try.prog w) := run_aggStore 33 144 (by kernel_rfl) g off v w
attribute [go_sem ↓] zero33 lv33 sv33
attribute [go_sem] ld33 st33
theorem a2Is_k {k : Bool} (a b : Int) (f : Nat → Int) (i : Int) (ha : -128 ≤ a ∧ a ≤ 127) (hb : -128 ≤ b ∧ b ≤ 127) (h : cellB i a b = k) (w : World) : Calls Try.prog 9 #[.agg (pic 144 a b f), .int .i64 i] w fun e w' => e = .returned (.bool k) ∧ New w w' := by
  rw [← h]; exact a2Is_any a b f i ha hb w
noncomputable def ffL1Body : Code := loopIn (Try.f3.body.getD .skip) 0
set_option maxHeartbeats 4000000 in
set_option maxRecDepth 1000000 in
theorem ffL1 (a b : Int) (f : Nat → Int) (ha : 1 ≤ a ∧ a ≤ 12) (hb : 1 ≤ b ∧ b ≤ 12) (hf : ∀ i, 0 ≤ f i ∧ f i ≤ 255) (N gP gO gD base cD : Nat) (vs : Nat → Value) (wB w9 : World)
    (hN : fsN a b f 144 = N) (lP : gP < wB.heap.size) (oP : Hid (obj wB gP = some (.cells (pic 144 a b f) 27))) (hrr : Hid (RR wB base (.slice (some ⟨gD, 0, none⟩) N cD) N vs (fsM a b f 144) (fsF a b f 144))) (lO : wB.heap.size ≤ gO)
    (oO : obj w9 gO = some (.cells (arr 144 .i64 (owU a b f 0 0)) 33)) (hN9 : New wB w9)
    (Q0 : Exit → Act → World → Prop) (s0 s1 s2 s3 s4 s6 s7 s9 s13 s14 s15 s16 s17 s18 s19 s20 s21 s22 s23 s24 s25 s26 s27 s28 s29 s30 s31 s32 s33 s34 s35 s36 s37 s38 s39 s40 s41 s42 s43 s44 s45 s46 s47 s48 s49 s50 s51 s52 s53 s54 s55 s56 s57 s58 s59 s60 s61 s62 s63 s64 s65 s66 s67 s68 s69 s70 s71 s72 s73 s74 s75 s76 s77 s78 s79 s80 s81 s82 s83 s84 s85 s86 s87 s88 s89 s90 s91 s92 s93 s94 s95 s96 s97 s98 s99 s100 s101 s102 s103 s104 s105 s106 s107 s108 s109 s110 s111 s112 s113 s114 s115 s116 s117 s118 s119 s120 s121 s122 s123 s124 s125 s126 s127 s128 s129 s130 s131 s132 s133 s134 s135 s136 s137 s138 s139 s140 s141 s142 s143 s144 s145 s146 s147 s148 s149 s150 s151 s152 s153 s154 s155 s156 s157 s158 s159 s160 s161 s162 s163 s164 s165 s166 s167 s168 s169 s170 s171 s172 s173 s174 s175 s176 s177 s178 s179 s180 s181 s182 s183 s184 s185 s186 s187 s188 s189 s190 s191 s192 s193 s194 s195 s196 s197 s198 s199 s200 s201 s202 s203 s204 s205 s206 s207 s208 s209 s210 s211 s212 s213 s214 s215 s216 s217 s218 s219 s220 s221 s222 s223 s224 s225 s226 s227 s228 s229 s230 s231 s232 s233 s234 s235 s236 s237 s238 s239 s240 s241 s242 s243 s244 s245 s246 s247 s248 s249 s250 s251 s252 s253 s254 s255 s256 s257 s258 s259 s260 s261 s262 s263 s264 s265 s266 s267 s268 s269 s270 s271 s272 s273 s274 s275 s276 s277 s278 s279 s280 s281 s282 s283 s284 s285 s286 s287 s288 s289 s290 s291 s292 s293 s294 s295 s296 s297 s298 s299 s300 s301 s302 s303 s304 s305 s306 s307 s308 s309 s310 s311 s312 s313 s314 s315 s316 s317 s318 s319 s320 s321 s322 s323 s324 s325 s326 s327 s328 s329 s330 s331 s332 s333 s334 s335 s336 s337 s338 s339 s340 s341 s342 s343 s344 s345 s346 s347 s348 s349 s350 s351 s352 s353 s354 s355 s356 s357 s358 s359 s360 s361 s362 s363 s364 s365 s366 s367 s368 s369 s370 s371 s372 s373 s374 s375 s376 s377 s378 s379 s380 s381 s382 s383 s384 s385 s386 s387 s388 s389 s390 s391 s392 s393 s394 s395 s396 s397 s398 s399 s400 s401 s402 s403 s404 s405 s406 s407 s408 s409 s410 s411 s412 s413 s414 s415 s416 s417 s418 s419 s420 s421 s422 s423 s424 s425 s426 s427 s428 s429 s430 s431 s432 s433 s434 s435 s436 s437 s438 s439 s440 s441 s442 s443 s444 s445 s446 s447 s448 s449 s450 s451 s452 s453 s454 s455 s456 s457 s458 s459 s460 s461 s462 s463 s464 s465 s466 s467 s468 s469 s470 s471 s472 s473 s474 s475 s476 s477 s478 s479 s480 s481 s482 s483 s484 s485 s486 s487 s488 s489 s490 s491 s492 s493 s494 s495 s496 s497 s498 s499 s500 : Value)
    (hexit : ∀ (u4 u12 u13 u14 u79 u80 u81 u82 u83 u84 u85 u86 u87 u88 u89 u90 u91 u92 u93 u94 u95 u96 u97 u98 u99 u100 u101 u102 u103 u104 u105 u106 u107 u108 u109 u110 u111 u112 u113 u114 u115 u116 u117 u118 u119 u120 u121 u122 u123 u124 u125 u126 u127 u128 u129 u130 u131 u132 u133 u134 u135 u136 u137 u138 u139 u140 u141 u142 u143 u144 u145 u146 u147 u148 u149 u150 u151 u152 u153 u154 u155 u156 u157 u158 : Value) (w' : World), obj w' gO = some (.cells (arr 144 .i64 (owU a b f N 0)) 33) → New wB w' →
      Q0 (.exit 0) ⟨List.toArray (s0 :: s1 :: s2 :: s3 :: u4 :: (.pointer (some ⟨gP, 0, none⟩)) :: s6 :: s7 :: (.slice (some ⟨gD, 0, none⟩) N cD) :: s9 :: (.pointer (some ⟨gO, 0, none⟩)) :: (.int .i64 (owC a b f N 0 : Nat)) :: u12 :: u13 :: u14 :: s15 :: s16 :: s17 :: s18 :: s19 :: s20 :: s21 :: s22 :: s23 :: s24 :: s25 :: s26 :: s27 :: s28 :: s29 :: s30 :: s31 :: s32 :: s33 :: s34 :: s35 :: s36 :: s37 :: s38 :: s39 :: s40 :: s41 :: s42 :: s43 :: s44 :: s45 :: s46 :: s47 :: s48 :: s49 :: s50 :: s51 :: s52 :: s53 :: s54 :: s55 :: s56 :: s57 :: s58 :: s59 :: s60 :: s61 :: s62 :: s63 :: s64 :: s65 :: s66 :: s67 :: s68 :: s69 :: s70 :: s71 :: s72 :: s73 :: s74 :: s75 :: s76 :: s77 :: s78 :: u79 :: u80 :: u81 :: u82 :: u83 :: u84 :: u85 :: u86 :: u87 :: u88 :: u89 :: u90 :: u91 :: u92 :: u93 :: u94 :: u95 :: u96 :: u97 :: u98 :: u99 :: u100 :: u101 :: u102 :: u103 :: u104 :: u105 :: u106 :: u107 :: u108 :: u109 :: u110 :: u111 :: u112 :: u113 :: u114 :: u115 :: u116 :: u117 :: u118 :: u119 :: u120 :: u121 :: u122 :: u123 :: u124 :: u125 :: u126 :: u127 :: u128 :: u129 :: u130 :: u131 :: u132 :: u133 :: u134 :: u135 :: u136 :: u137 :: u138 :: u139 :: u140 :: u141 :: u142 :: u143 :: u144 :: u145 :: u146 :: u147 :: u148 :: u149 :: u150 :: u151 :: u152 :: u153 :: u154 :: u155 :: u156 :: u157 :: u158 :: s159 :: s160 :: s161 :: s162 :: s163 :: s164 :: s165 :: s166 :: s167 :: s168 :: s169 :: s170 :: s171 :: s172 :: s173 :: s174 :: s175 :: s176 :: s177 :: s178 :: s179 :: s180 :: s181 :: s182 :: s183 :: s184 :: s185 :: s186 :: s187 :: s188 :: s189 :: s190 :: s191 :: s192 :: s193 :: s194 :: s195 :: s196 :: s197 :: s198 :: s199 :: s200 :: s201 :: s202 :: s203 :: s204 :: s205 :: s206 :: s207 :: s208 :: s209 :: s210 :: s211 :: s212 :: s213 :: s214 :: s215 :: s216 :: s217 :: s218 :: s219 :: s220 :: s221 :: s222 :: s223 :: s224 :: s225 :: s226 :: s227 :: s228 :: s229 :: s230 :: s231 :: s232 :: s233 :: s234 :: s235 :: s236 :: s237 :: s238 :: s239 :: s240 :: s241 :: s242 :: s243 :: s244 :: s245 :: s246 :: s247 :: s248 :: s249 :: s250 :: s251 :: s252 :: s253 :: s254 :: s255 :: s256 :: s257 :: s258 :: s259 :: s260 :: s261 :: s262 :: s263 :: s264 :: s265 :: s266 :: s267 :: s268 :: s269 :: s270 :: s271 :: s272 :: s273 :: s274 :: s275 :: s276 :: s277 :: s278 :: s279 :: s280 :: s281 :: s282 :: s283 :: s284 :: s285 :: s286 :: s287 :: s288 :: s289 :: s290 :: s291 :: s292 :: s293 :: s294 :: s295 :: s296 :: s297 :: s298 :: s299 :: s300 :: s301 :: s302 :: s303 :: s304 :: s305 :: s306 :: s307 :: s308 :: s309 :: s310 :: s311 :: s312 :: s313 :: s314 :: s315 :: s316 :: s317 :: s318 :: s319 :: s320 :: s321 :: s322 :: s323 :: s324 :: s325 :: s326 :: s327 :: s328 :: s329 :: s330 :: s331 :: s332 :: s333 :: s334 :: s335 :: s336 :: s337 :: s338 :: s339 :: s340 :: s341 :: s342 :: s343 :: s344 :: s345 :: s346 :: s347 :: s348 :: s349 :: s350 :: s351 :: s352 :: s353 :: s354 :: s355 :: s356 :: s357 :: s358 :: s359 :: s360 :: s361 :: s362 :: s363 :: s364 :: s365 :: s366 :: s367 :: s368 :: s369 :: s370 :: s371 :: s372 :: s373 :: s374 :: s375 :: s376 :: s377 :: s378 :: s379 :: s380 :: s381 :: s382 :: s383 :: s384 :: s385 :: s386 :: s387 :: s388 :: s389 :: s390 :: s391 :: s392 :: s393 :: s394 :: s395 :: s396 :: s397 :: s398 :: s399 :: s400 :: s401 :: s402 :: s403 :: s404 :: s405 :: s406 :: s407 :: s408 :: s409 :: s410 :: s411 :: s412 :: s413 :: s414 :: s415 :: s416 :: s417 :: s418 :: s419 :: s420 :: s421 :: s422 :: s423 :: s424 :: s425 :: s426 :: s427 :: s428 :: s429 :: s430 :: s431 :: s432 :: s433 :: s434 :: s435 :: s436 :: s437 :: s438 :: s439 :: s440 :: s441 :: s442 :: s443 :: s444 :: s445 :: s446 :: s447 :: s448 :: s449 :: s450 :: s451 :: s452 :: s453 :: s454 :: s455 :: s456 :: s457 :: s458 :: s459 :: s460 :: s461 :: s462 :: s463 :: s464 :: s465 :: s466 :: s467 :: s468 :: s469 :: s470 :: s471 :: s472 :: s473 :: s474 :: s475 :: s476 :: s477 :: s478 :: s479 :: s480 :: s481 :: s482 :: s483 :: s484 :: s485 :: s486 :: s487 :: s488 :: s489 :: s490 :: s491 :: s492 :: s493 :: s494 :: s495 :: s496 :: s497 :: s498 :: s499 :: s500 :: []), []⟩ w') :
    Code.wp Try.prog (Code.loop ffL1Body) Q0 ⟨List.toArray (s0 :: s1 :: s2 :: s3 :: s4 :: (.pointer (some ⟨gP, 0, none⟩)) :: s6 :: s7 :: (.slice (some ⟨gD, 0, none⟩) N cD) :: s9 :: (.pointer (some ⟨gO, 0, none⟩)) :: (.int .i64 0) :: (.int .i64 0) :: s13 :: s14 :: s15 :: s16 :: s17 :: s18 :: s19 :: s20 :: s21 :: s22 :: s23 :: s24 :: s25 :: s26 :: s27 :: s28 :: s29 :: s30 :: s31 :: s32 :: s33 :: s34 :: s35 :: s36 :: s37 :: s38 :: s39 :: s40 :: s41 :: s42 :: s43 :: s44 :: s45 :: s46 :: s47 :: s48 :: s49 :: s50 :: s51 :: s52 :: s53 :: s54 :: s55 :: s56 :: s57 :: s58 :: s59 :: s60 :: s61 :: s62 :: s63 :: s64 :: s65 :: s66 :: s67 :: s68 :: s69 :: s70 :: s71 :: s72 :: s73 :: s74 :: s75 :: s76 :: s77 :: s78 :: s79 :: s80 :: s81 :: s82 :: s83 :: s84 :: s85 :: s86 :: s87 :: s88 :: s89 :: s90 :: s91 :: s92 :: s93 :: s94 :: s95 :: s96 :: s97 :: s98 :: s99 :: s100 :: s101 :: s102 :: s103 :: s104 :: s105 :: s106 :: s107 :: s108 :: s109 :: s110 :: s111 :: s112 :: s113 :: s114 :: s115 :: s116 :: s117 :: s118 :: s119 :: s120 :: s121 :: s122 :: s123 :: s124 :: s125 :: s126 :: s127 :: s128 :: s129 :: s130 :: s131 :: s132 :: s133 :: s134 :: s135 :: s136 :: s137 :: s138 :: s139 :: s140 :: s141 :: s142 :: s143 :: s144 :: s145 :: s146 :: s147 :: s148 :: s149 :: s150 :: s151 :: s152 :: s153 :: s154 :: s155 :: s156 :: s157 :: s158 :: s159 :: s160 :: s161 :: s162 :: s163 :: s164 :: s165 :: s166 :: s167 :: s168 :: s169 :: s170 :: s171 :: s172 :: s173 :: s174 :: s175 :: s176 :: s177 :: s178 :: s179 :: s180 :: s181 :: s182 :: s183 :: s184 :: s185 :: s186 :: s187 :: s188 :: s189 :: s190 :: s191 :: s192 :: s193 :: s194 :: s195 :: s196 :: s197 :: s198 :: s199 :: s200 :: s201 :: s202 :: s203 :: s204 :: s205 :: s206 :: s207 :: s208 :: s209 :: s210 :: s211 :: s212 :: s213 :: s214 :: s215 :: s216 :: s217 :: s218 :: s219 :: s220 :: s221 :: s222 :: s223 :: s224 :: s225 :: s226 :: s227 :: s228 :: s229 :: s230 :: s231 :: s232 :: s233 :: s234 :: s235 :: s236 :: s237 :: s238 :: s239 :: s240 :: s241 :: s242 :: s243 :: s244 :: s245 :: s246 :: s247 :: s248 :: s249 :: s250 :: s251 :: s252 :: s253 :: s254 :: s255 :: s256 :: s257 :: s258 :: s259 :: s260 :: s261 :: s262 :: s263 :: s264 :: s265 :: s266 :: s267 :: s268 :: s269 :: s270 :: s271 :: s272 :: s273 :: s274 :: s275 :: s276 :: s277 :: s278 :: s279 :: s280 :: s281 :: s282 :: s283 :: s284 :: s285 :: s286 :: s287 :: s288 :: s289 :: s290 :: s291 :: s292 :: s293 :: s294 :: s295 :: s296 :: s297 :: s298 :: s299 :: s300 :: s301 :: s302 :: s303 :: s304 :: s305 :: s306 :: s307 :: s308 :: s309 :: s310 :: s311 :: s312 :: s313 :: s314 :: s315 :: s316 :: s317 :: s318 :: s319 :: s320 :: s321 :: s322 :: s323 :: s324 :: s325 :: s326 :: s327 :: s328 :: s329 :: s330 :: s331 :: s332 :: s333 :: s334 :: s335 :: s336 :: s337 :: s338 :: s339 :: s340 :: s341 :: s342 :: s343 :: s344 :: s345 :: s346 :: s347 :: s348 :: s349 :: s350 :: s351 :: s352 :: s353 :: s354 :: s355 :: s356 :: s357 :: s358 :: s359 :: s360 :: s361 :: s362 :: s363 :: s364 :: s365 :: s366 :: s367 :: s368 :: s369 :: s370 :: s371 :: s372 :: s373 :: s374 :: s375 :: s376 :: s377 :: s378 :: s379 :: s380 :: s381 :: s382 :: s383 :: s384 :: s385 :: s386 :: s387 :: s388 :: s389 :: s390 :: s391 :: s392 :: s393 :: s394 :: s395 :: s396 :: s397 :: s398 :: s399 :: s400 :: s401 :: s402 :: s403 :: s404 :: s405 :: s406 :: s407 :: s408 :: s409 :: s410 :: s411 :: s412 :: s413 :: s414 :: s415 :: s416 :: s417 :: s418 :: s419 :: s420 :: s421 :: s422 :: s423 :: s424 :: s425 :: s426 :: s427 :: s428 :: s429 :: s430 :: s431 :: s432 :: s433 :: s434 :: s435 :: s436 :: s437 :: s438 :: s439 :: s440 :: s441 :: s442 :: s443 :: s444 :: s445 :: s446 :: s447 :: s448 :: s449 :: s450 :: s451 :: s452 :: s453 :: s454 :: s455 :: s456 :: s457 :: s458 :: s459 :: s460 :: s461 :: s462 :: s463 :: s464 :: s465 :: s466 :: s467 :: s468 :: s469 :: s470 :: s471 :: s472 :: s473 :: s474 :: s475 :: s476 :: s477 :: s478 :: s479 :: s480 :: s481 :: s482 :: s483 :: s484 :: s485 :: s486 :: s487 :: s488 :: s489 :: s490 :: s491 :: s492 :: s493 :: s494 :: s495 :: s496 :: s497 :: s498 :: s499 :: s500 :: []), []⟩ w9 := by
  conv => arg 2; arg 1; whnf
  replace hN := hide hN
  go_loopw [11, 12] (fun c i wq => ∃ k : Nat, k ≤ N ∧ c = .int .i64 (owC a b f k 0 : Nat) ∧ i = .int .i64 k ∧ Hid (obj wq gO = some (.cells (arr 144 .i64 (owU a b f k 0)) 33)) ∧ New wB wq) (fun _ i _ => N - (intOf i).toNat)
  case atStart => exact ⟨0, by omega, by rw [owC_0]; rfl, rfl, oO, hN9⟩
  case round =>
    obtain ⟨i, hi, rfl, rfl, hoo, hnw⟩ := hrel
    by_cases hlt : i < N
    · have hiN : i < fsN a b f 144 := by rw [hN.out]; exact hlt
      obtain ⟨s, hs⟩ : ∃ s, Hid (selG (fsP a b f) 144 i = s) := ⟨_, rfl⟩
      have hsP : fsP a b f s = true := by rw [← hs.out]; exact (selG_lt (p := fsP a b f) 144 i hiN).2
      have hrf := row_first ha.2 hb.2 hsP
      have hs144 : s < 144 := (cellN_e.1 (fsP_cell hsP)).1
      obtain ⟨M, hM⟩ : ∃ M, Hid (fsM a b f 144 i = M) := ⟨_, rfl⟩
      have hM0 : 0 < M := by rw [← hM.out]; show 0 < fldM a b f (selG (fsP a b f) 144 i); rw [hs.out]; exact hrf.1
      have hF0 : Hid (fsF a b f 144 i 0 = (s : Int)) := by
        show ((selG (inF (fldQ a b f (selG (fsP a b f) 144 i))) 144 0 : Nat) : Int) = s
        rw [hs.out, hrf.2]
      have hMF := hide (show fldM a b f (selG (fsP a b f) 144 i) = M from hM.out)
      have hrow : Hid (∀ k, k < M → Hid (fsF a b f 144 i k = (selG (inF (rowQ a b f i)) 144 k : Nat)) ∧ selG (inF (rowQ a b f i)) 144 k < 144 ∧ cellN a b (selG (inF (rowQ a b f i)) 144 k) = true ∧ f (selG (inF (rowQ a b f i)) 144 k) = f s) := fun k hk => by
        have h1 := selG_lt (p := inF (rowQ a b f i)) 144 k (by rw [← hMF.out] at hk; exact hk)
        have h2 := fldQ_in ha.2 hb.2 (fsP_cell (selG_lt (p := fsP a b f) 144 i hiN).2) _ (of_decide_eq_true h1.2)
        rw [hs.out] at h2
        exact ⟨rfl, h1.1, h2⟩
      have hfree := hide fun k (hk : k < M) => owU_free (f := f) ha.2 hb.2 hiN (k := k) (by rw [hMF.out]; exact hk)
      have hput := hide fun k (hk : k < M) c => owU_put (f := f) ha.2 hb.2 hiN (k := k) (by rw [hMF.out]; exact hk) c
      have hcp := hide fun k (hk : k < M) => owC_put (f := f) ha.2 hb.2 hiN (k := k) (by rw [hMF.out]; exact hk)
      have hnx := hide fun c => owU_next (f := f) ha.2 hb.2 hiN c
      have hcn := hide (owC_next (f := f) ha.2 hb.2 hiN)
      rw [hMF.out] at hnx hcn
      obtain ⟨g1, cur1, hg1, o1, l1, e1⟩ := hrr.out.slot hlt
      cases hg1
      have r1 := (hrr.out.row hlt)
      obtain ⟨x1, y1, z1, hs1⟩ := r1.reads
      rw [z1] at e1
      rw [hM.out] at e1 hs1
      obtain ⟨g2, cur2, rfl, o2, e2⟩ := hs1 0 hM0
      rw [hF0.out] at e2
      obtain ⟨l2, e2⟩ := Array.getElem?_eq_some_iff.1 e2
      replace hs1 := hide hs1
      have p1 := (hnw.objs _ (obj_lt o1)).trans o1
      have p2 := (hnw.objs _ (obj_lt o2)).trans o2
      have q1 := obj_lt p1
      have q2 := obj_lt p2
      have hM144 : M ≤ 144 := by rw [← hM.out]; exact fsM_le a b f 144 i
      have hN144 : N ≤ 144 := by rw [← hN.out]; exact fsN_le a b f 144
      have oo := hoo.out
      have qo := obj_lt oo
      have hC0 : owC a b f i 0 ≤ 144 := selN_le 144
      clear hoo hsP hrf hM hMF r1 z1
      have hMb : ((M : Int) == 0) = false := by simp; omega
      by_cases hi0 : i = 0
      · have hi00 : (i : Int) = 0 := by omega
        have hgt : decide ((0 : Int) < i) = false := decide_eq_false (by omega)
        have e10 : cur1[0]? = some (.slice (some ⟨g2, 0, none⟩) M y1) := by
          have h := Array.getElem?_eq_some_iff.2 ⟨l1, e1⟩
          rw [hi0] at h
          exact h
        obtain ⟨l10, e10⟩ := Array.getElem?_eq_some_iff.1 e10
        go_wp2_with (fail)
        go_quiet (fail)
        clear hgt hi00 e10 l10
        replace hi0 := hide hi0
        have oo3 : obj (wr.drewN nq) gO = _ := (obj_drewN _ _ _).trans oo
        have hn3 : New wB (wr.drewN nq) := hnw.drewN nq
        clear oo p1 p2 q1 q2 qo
        go_wp2_with (fail)
        go_loopw [11, 13] (fun c j wq => ∃ k : Nat, k ≤ M ∧ c = .int .i64 (owC a b f i k : Nat) ∧ j = .int .i64 k ∧ Hid (obj wq gO = some (.cells (arr 144 .i64 (owU a b f i k)) 33)) ∧ New wB wq) (fun _ j _ => M - (intOf j).toNat)
        case atStart => exact ⟨0, by omega, rfl, rfl, oo3, hn3⟩
        case round =>
          obtain ⟨k, hk, rfl, rfl, hoq, hnq⟩ := hrel
          clear oo3 hn3
          by_cases hlk : k < M
          · obtain ⟨hFk, hc144, hcell, hcf⟩ := hrow.out k hlk
            have hfr := hfree.out k hlk
            have hpt := hide (hput.out k hlk)
            have hcq := hide (hcp.out k hlk)
            obtain ⟨C, hC⟩ : ∃ C, Hid (owC a b f i k = C) := ⟨_, rfl⟩
            have hC144 : C ≤ 144 := by rw [← hC.out]; exact selN_le 144
            rw [hC.out] at hcq ⊢
            have hcB : Hid (cellB (selG (inF (rowQ a b f i)) 144 k : Nat) a b = true) := hcell
            obtain ⟨g3, cur3, hg3, o3, e3⟩ := hs1.out k hlk
            cases hg3
            have hcur : cur3 = cur2 := by
              have := o3.symm.trans o2
              simp only [Option.some.injEq, Obj.cells.injEq] at this
              exact this.1
            rw [hcur, hFk.out] at e3
            obtain ⟨l3, e3⟩ := Array.getElem?_eq_some_iff.1 e3
            generalize selG (inF (rowQ a b f i)) 144 k = c at hc144 hcell hcf hfr hpt hcB e3
            have p1 := (hnq.objs _ (obj_lt o1)).trans o1
            have p2 := (hnq.objs _ (obj_lt o2)).trans o2
            have p3 := (hnq.objs _ lP).trans oP.out
            have q1 := obj_lt p1
            have q2 := obj_lt p2
            have q3 := obj_lt p3
            have ow := hoq.out
            have qw := obj_lt ow
            have hcell := hide hcell
            clear hoq o3 hcur hFk
            have hc145 : (c : Int) < 144 := by omega
            go_wp2_with (fail)
            go_wp2_with (fail)
            refine wp_region_new (by kernel_rfl) (by kernel_rfl) ?_
            repeat (go_big_quiet_step (first | fail | (go_at_call 9; with_reducible exact calls_new (a2Is_k a b f _ ⟨by omega, by omega⟩ ⟨by omega, by omega⟩ hcB.out _))))
            refine wpQuiet_nil ?_
            intro w1 hc1
            have hn1 := NewW.of hc1
            clear hc1
            have ho1 := hn1.objs
            have hz1 := hn1.le
            try simp at hz1
            have k1_0 : gD < w1.heap.size := by omega
            have k1_1 : g2 < w1.heap.size := by omega
            have k1_2 : gP < w1.heap.size := by omega
            have k1_3 : gO < w1.heap.size := by omega
            have ow2 := (ho1 _ qw).trans ow
            have hn2 := hnq.trans hn1
            clear p1 p2 p3 q1 q2 q3 ow ho1
            have qw2 := obj_lt ow2
            go_wp2_with (fail)
            go_roundw
            case rel =>
              refine ⟨k + 1, by omega, by rw [hcq.out]; go_num, by go_num, ?_, hn2.setCell (by omega) _⟩
              show _ = _
              rw [obj_set_arr ow2 _ c _ rfl]
              congr 2
              exact arr_congr fun j _ => hpt.out j
            case measure => simp [intOf]; omega
          · have hkM : k = M := by omega
            have oo4 := hoq.out
            have p1 := (hnq.objs _ (obj_lt o1)).trans o1
            have q1 := obj_lt p1
            rw [hkM] at oo4 ⊢
            go_wp2_with (fail)
            go_roundw
            case rel => exact ⟨i + 1, by omega, by rw [hcn.out], by go_num, by show _ = _; rw [oo4]; congr 2; exact arr_congr fun j _ => hnx.out j, hnq⟩
            case measure => simp [intOf]; omega
      · obtain ⟨i', hi'⟩ : ∃ i', Hid (i' + 1 = i) := ⟨i - 1, show _ = _ by omega⟩
        have hi'' := hi'.out
        have hip : 0 < i := by omega
        have hip2 : (0 : Int) < i := by omega
        have hdec : IntKind.i64.wrap ((i : Int) - 1) = (i' : Int) := by rw [show IntKind.i64.wrap ((i : Int) - 1) = (i : Int) - 1 by simp [IntKind.wrap, IntKind.bits, IntKind.signed]; omega]; omega
        obtain ⟨s', hs'⟩ : ∃ s', Hid (selG (fsP a b f) 144 i' = s') := ⟨_, rfl⟩
        have hlt' : i' < N := by omega
        have hiN' : i' < fsN a b f 144 := by rw [hN.out]; exact hlt'
        have hsP' : fsP a b f s' = true := by rw [← hs'.out]; exact (selG_lt (p := fsP a b f) 144 i' hiN').2
        have hrf' := row_first ha.2 hb.2 hsP'
        have hss : s' < s := by
          have := selG_inc (p := fsP a b f) 144 i' i (by omega) hiN
          rw [hs.out, hs'.out] at this
          exact this
        obtain ⟨M', hM'⟩ : ∃ M', Hid (fsM a b f 144 i' = M') := ⟨_, rfl⟩
        have hM0' : 0 < M' := by rw [← hM'.out]; show 0 < fldM a b f (selG (fsP a b f) 144 i'); rw [hs'.out]; exact hrf'.1
        have hM144' : M' ≤ 144 := by rw [← hM'.out]; exact fsM_le a b f 144 i'
        have hF0' : fsF a b f 144 i' 0 = (s' : Int) := by
          show ((selG (inF (fldQ a b f (selG (fsP a b f) 144 i'))) 144 0 : Nat) : Int) = s'
          rw [hs'.out, hrf'.2]
        obtain ⟨g1', cur1', hg1', o1', l1', e1'⟩ := hrr.out.slot hlt'
        cases hg1'
        have hcur' : cur1' = cur1 := by
          have := o1'.symm.trans o1
          simp only [Option.some.injEq, Obj.cells.injEq] at this
          exact this.1
        subst hcur'
        obtain ⟨x2, y2, z2, s2'⟩ := (hrr.out.row hlt').reads
        rw [z2, hM'.out] at e1'
        rw [hM'.out] at s2'
        obtain ⟨g4, cur4, rfl, o4, e4⟩ := s2' 0 hM0'
        rw [hF0'] at e4
        obtain ⟨l4, e4⟩ := Array.getElem?_eq_some_iff.1 e4
        have p4 := (hnw.objs _ (obj_lt o4)).trans o4
        have q4 := obj_lt p4
        clear s2' z2 hF0' hM' hrf' hsP' hiN' hs' hi'' o1'
        go_wp2_with (fail)
        go_quiet (fail)
        clear p4 q4
        have oo3 : obj (wr.drewN nq) gO = _ := (obj_drewN _ _ _).trans oo
        have hn3 : New wB (wr.drewN nq) := hnw.drewN nq
        clear oo p1 p2 q1 q2 qo
        go_wp2_with (fail)
        go_loopw [11, 13] (fun c j wq => ∃ k : Nat, k ≤ M ∧ c = .int .i64 (owC a b f i k : Nat) ∧ j = .int .i64 k ∧ Hid (obj wq gO = some (.cells (arr 144 .i64 (owU a b f i k)) 33)) ∧ New wB wq) (fun _ j _ => M - (intOf j).toNat)
        case atStart => exact ⟨0, by omega, rfl, rfl, oo3, hn3⟩
        case round =>
          obtain ⟨k, hk, rfl, rfl, hoq, hnq⟩ := hrel
          clear oo3 hn3
          by_cases hlk : k < M
          · obtain ⟨hFk, hc144, hcell, hcf⟩ := hrow.out k hlk
            have hfr := hfree.out k hlk
            have hpt := hide (hput.out k hlk)
            have hcq := hide (hcp.out k hlk)
            obtain ⟨C, hC⟩ : ∃ C, Hid (owC a b f i k = C) := ⟨_, rfl⟩
            have hC144 : C ≤ 144 := by rw [← hC.out]; exact selN_le 144
            rw [hC.out] at hcq ⊢
            have hcB : Hid (cellB (selG (inF (rowQ a b f i)) 144 k : Nat) a b = true) := hcell
            obtain ⟨g3, cur3, hg3, o3, e3⟩ := hs1.out k hlk
            cases hg3
            have hcur : cur3 = cur2 := by
              have := o3.symm.trans o2
              simp only [Option.some.injEq, Obj.cells.injEq] at this
              exact this.1
            rw [hcur, hFk.out] at e3
            obtain ⟨l3, e3⟩ := Array.getElem?_eq_some_iff.1 e3
            generalize selG (inF (rowQ a b f i)) 144 k = c at hc144 hcell hcf hfr hpt hcB e3
            have p1 := (hnq.objs _ (obj_lt o1)).trans o1
            have p2 := (hnq.objs _ (obj_lt o2)).trans o2
            have p3 := (hnq.objs _ lP).trans oP.out
            have q1 := obj_lt p1
            have q2 := obj_lt p2
            have q3 := obj_lt p3
            have ow := hoq.out
            have qw := obj_lt ow
            have hcell := hide hcell
            clear hoq o3 hcur hFk
            have hc145 : (c : Int) < 144 := by omega
            go_wp2_with (fail)
            go_wp2_with (fail)
            refine wp_region_new (by kernel_rfl) (by kernel_rfl) ?_
            repeat (go_big_quiet_step (first | fail | (go_at_call 9; with_reducible exact calls_new (a2Is_k a b f _ ⟨by omega, by omega⟩ ⟨by omega, by omega⟩ hcB.out _))))
            refine wpQuiet_nil ?_
            intro w2 hc2
            have hn2 := NewW.of hc2
            clear hc2
            have ho2 := hn2.objs
            have hz2 := hn2.le
            try simp at hz2
            have k2_0 : gD < w2.heap.size := by omega
            have k2_1 : g2 < w2.heap.size := by omega
            have k2_2 : gP < w2.heap.size := by omega
            have k2_3 : gO < w2.heap.size := by omega
            have ow2 := (ho2 _ qw).trans ow
            have hn5 := hnq.trans hn2
            clear p1 p2 p3 q1 q2 q3 ow ho2
            have qw2 := obj_lt ow2
            go_wp2_with (fail)
            go_roundw
            case rel =>
              refine ⟨k + 1, by omega, by rw [hcq.out]; go_num, by go_num, ?_, hn5.setCell (by omega) _⟩
              show _ = _
              rw [obj_set_arr ow2 _ c _ rfl]
              congr 2
              exact arr_congr fun j _ => hpt.out j
            case measure => simp [intOf]; omega
          · have hkM : k = M := by omega
            have oo4 := hoq.out
            have p1 := (hnq.objs _ (obj_lt o1)).trans o1
            have q1 := obj_lt p1
            rw [hkM] at oo4 ⊢
            go_wp2_with (fail)
            go_roundw
            case rel => exact ⟨i + 1, by omega, by rw [hcn.out], by go_num, by show _ = _; rw [oo4]; congr 2; exact arr_congr fun j _ => hnx.out j, hnq⟩
            case measure => simp [intOf]; omega
    · have hiN : i = N := by omega
      have oo := hoo.out
      clear hoo
      go_wp2_with (fail)
      rw [hiN] at *
      exact hexit _ _ _ _ _ _ _ _ _ _ _ _ _ _ _ _ _ _ _ _ _ _ _ _ _ _ _ _ _ _ _ _ _ _ _ _ _ _ _ _ _ _ _ _ _ _ _ _ _ _ _ _ _ _ _ _ _ _ _ _ _ _ _ _ _ _ _ _ _ _ _ _ _ _ _ _ _ _ _ _ _ _ _ _ _ oo hnw
end Go.Proofs.Ytmmckoemkpfgbaa
