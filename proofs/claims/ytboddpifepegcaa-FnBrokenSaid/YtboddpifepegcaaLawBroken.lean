/- FnBroken returns true for all arguments: for any two slices of bytes (longer ones than 3000 bytes are let go by) all that the statement compares holds. No condition. -/
import Derived.Test.YtboddpifepegcaaBrkW
import Derived.Test.YtboddpifepegcaaByts
import Derived.Deep.DeepCutAuto
namespace Go.Proofs.Ytboddpifepegcaa.lawBroken
set_option maxRecDepth 20000
open Go.ChangeShapes Go.WideShapes Go.ChangeAt Go.RowKit Go.Proofs.Ytboddpifepegcaa

/-- Does a code begin with a region? -/
def startsAt (n : Nat) : Code → Bool
  | .region k _ _ => k == n
  | .seq a _ => startsAt n a
  | .block _ c => startsAt n c
  | .scope c => startsAt n c
  | _ => false
/-- The part of a code that begins with a region. -/
def atRegion (n : Nat) : Code → Option Code
  | .seq a b => if startsAt n a then some (.seq a b) else match atRegion n a with
    | some c => some c
    | none => atRegion n b
  | .block _ c => atRegion n c
  | .scope c => atRegion n c
  | _ => none
noncomputable def tailC : Code := ((Try.f4.body.bind (atRegion 15)).getD .skip)
set_option maxRecDepth 1000000 in
set_option maxHeartbeats 8000000 in
theorem tail {B : Bld} {h : Int} {m m' bd D gb gd : Nat} {F : List Nat} {a0 : Option Addr} {n0 c0 : Nat} {a1 : Option Addr} {n1 c1 : Nat} {w wc : World} {u2 u3 u4 u6 u7 u9 u10 u12 u13 u14 u15 u16 u17 u18 u20 u21 u22 u23 u24 u25 u26 u27 u28 u29 u30 u31 u32 u33 u34 u35 u36 u37 u38 u39 u40 u41 u42 u43 u44 u45 u46 u47 u48 u49 u50 u51 u52 u53 u54 u55 u56 u57 u58 u59 u60 u61 u62 u63 u64 u65 u66 u67 u68 u69 u70 u71 u72 u73 u74 u75 u76 u77 u78 u79 u80 u81 u82 u83 u84 u85 u86 u87 u88 u89 u90 u91 u92 u93 u94 u95 u96 u97 u98 u99 u100 u101 u102 u103 u104 u105 u106 u107 u108 u109 u110 u111 u112 u113 u114 u115 u116 u117 u118 u119 u120 u121 u122 u123 u124 u125 u126 u127 u128 u129 u130 u131 u132 u133 u134 u135 u136 u137 u138 u139 u140 u141 u142 u143 u144 u145 u146 u147 u148 u149 u150 u151 u152 u153 u154 u155 u156 u157 u158 u159 u160 u161 u162 u163 u164 u165 u166 u167 u168 u169 u170 u171 u172 u173 u174 u175 u176 u177 u178 u179 u180 u181 u182 u183 u184 u185 u186 u187 u188 u189 u190 u191 u192 u193 u194 u195 u196 u197 u198 u199 u200 u201 u202 u203 u204 u205 u206 u207 u208 u209 u210 u211 u212 u213 u214 u215 u216 u217 u218 u219 u220 u221 u222 u223 u224 u225 u226 u227 u228 u229 u230 u231 u232 u233 u234 u235 u236 u237 u238 u239 u240 u241 u242 u243 u244 u245 u246 u247 u248 u249 u250 u251 u252 u253 u254 u255 u256 u257 u258 u259 u260 u261 u262 u263 u264 u265 u266 u267 u268 u269 u270 u271 u272 u273 u274 u275 u276 u277 u278 u279 u280 u281 u282 u283 u284 u285 u286 u287 u288 u289 u290 u291 u292 u293 u294 u295 u296 u297 u298 u299 u300 u301 u302 u303 u304 u305 u306 u307 u308 u309 u310 u311 u312 u313 u314 u315 u316 u317 u318 u319 u320 u321 u322 u323 u324 u325 u326 u327 u328 u329 u330 u331 u332 u333 u334 u335 u336 u337 u338 u339 u340 u341 u342 u343 u344 u345 u346 u347 u348 u349 u350 u351 u352 u353 u354 u355 u356 u357 u358 u359 u360 u361 u362 u363 u364 u365 u366 u367 u368 u369 u370 u371 u372 u373 u374 u375 u376 u377 u378 u379 u380 u381 u382 u383 u384 u385 u386 u387 u388 u389 u390 u391 u392 : Value}
    (wf : WfB B) (bk : okB B = true) (ob : OkB B) (hn0 : n0 ≤ 4096) (hn1 : n1 ≤ 4096) (al : FloorAll B h m m' bd D F) (hb0 : wc.heap[gb]? = some (.cells (bcells B) 30 (0, 0))) (hb2 : wc.heap[gd]? = some (.cells (f32s F) 48 (0, 0))) (x0 : Bts wc a0 n0) (x1 : Bts wc a1 n1) (bw : Below w.heap.size w wc) :
    Code.wp Try.prog tailC (bodyPost Try.prog Try.f4 fun e w' => e = .returned (.bool true) ∧ Below w.heap.size w w') ⟨#[.slice a0 n0 c0, .slice a1 n1 c1, u2, u3, u4, .pointer (some ⟨gb, 0, none⟩), u6, u7, .float .f32 bd, u9, u10, .pointer (some ⟨gd, 0, none⟩), u12, u13, u14, u15, u16, u17, u18, .int .u32 (D : Int), u20, u21, u22, u23, u24, u25, u26, u27, u28, u29, u30, u31, u32, u33, u34, u35, u36, u37, u38, u39, u40, u41, u42, u43, u44, u45, u46, u47, u48, u49, u50, u51, u52, u53, u54, u55, u56, u57, u58, u59, u60, u61, u62, u63, u64, u65, u66, u67, u68, u69, u70, u71, u72, u73, u74, u75, u76, u77, u78, u79, u80, u81, u82, u83, u84, u85, u86, u87, u88, u89, u90, u91, u92, u93, u94, u95, u96, u97, u98, u99, u100, u101, u102, u103, u104, u105, u106, u107, u108, u109, u110, u111, u112, u113, u114, u115, u116, u117, u118, u119, u120, u121, u122, u123, u124, u125, u126, u127, u128, u129, u130, u131, u132, u133, u134, u135, u136, u137, u138, u139, u140, u141, u142, u143, u144, u145, u146, u147, u148, u149, u150, u151, u152, u153, u154, u155, u156, u157, u158, u159, u160, u161, u162, u163, u164, u165, u166, u167, u168, u169, u170, u171, u172, u173, u174, u175, u176, u177, u178, u179, u180, u181, u182, u183, u184, u185, u186, u187, u188, u189, u190, u191, u192, u193, u194, u195, u196, u197, u198, u199, u200, u201, u202, u203, u204, u205, u206, u207, u208, u209, u210, u211, u212, u213, u214, u215, u216, u217, u218, u219, u220, u221, u222, u223, u224, u225, u226, u227, u228, u229, u230, u231, u232, u233, u234, u235, u236, u237, u238, u239, u240, u241, u242, u243, u244, u245, u246, u247, u248, u249, u250, u251, u252, u253, u254, u255, u256, u257, u258, u259, u260, u261, u262, u263, u264, u265, u266, u267, u268, u269, u270, u271, u272, u273, u274, u275, u276, u277, u278, u279, u280, u281, u282, u283, u284, u285, u286, u287, u288, u289, u290, u291, u292, u293, u294, u295, u296, u297, u298, u299, u300, u301, u302, u303, u304, u305, u306, u307, u308, u309, u310, u311, u312, u313, u314, u315, u316, u317, u318, u319, u320, u321, u322, u323, u324, u325, u326, u327, u328, u329, u330, u331, u332, u333, u334, u335, u336, u337, u338, u339, u340, u341, u342, u343, u344, u345, u346, u347, u348, u349, u350, u351, u352, u353, u354, u355, u356, u357, u358, u359, u360, u361, u362, u363, u364, u365, u366, u367, u368, u369, u370, u371, u372, u373, u374, u375, u376, u377, u378, u379, u380, u381, u382, u383, u384, u385, u386, u387, u388, u389, u390, u391, u392], []⟩ wc := by
  have WF := hid wf
  have BK := hid bk
  have OB := hid ob
  have HN0 := hid hn0
  have HN1 := hid hn1
  have AL := hid al
  have LF := hid al.len
  have HDS := hid al.small
  have BB := hid hb0
  have B2 := hid hb2
  have X0 := hid x0
  have X1 := hid x1
  have BW := hid bw
  clear wf bk ob hn0 hn1 al hb0 hb2 x0 x1 bw
  conv => arg 2; whnf
  go_wp2_with fail
  go_loopw [21] (fun i wr => ∃ k : Nat, k ≤ 24 ∧ i = .int .i64 k ∧ Below wc.heap.size wc wr) (fun i _ => 24 - (intOf i).toNat)
  case atStart => exact ⟨0, by omega, rfl, Below.refl _ _⟩
  case round =>
    obtain ⟨k, hk, rfl, hbel⟩ := hrel
    have E := hid hbel
    clear hbel
    by_cases hlt : k < 24
    · have hlt' : (k : Int) < 24 := by omega
      have c1 := (cell_of_row _ gd k _ _ _ ((E.out.block _ (block_lt B2.out)).trans B2.out)).trans (f32s_at LF.out hlt)
      have c0 := cell_of_row _ (gb) 0 _ _ _ ((E.out.block _ (block_lt BB.out)).trans BB.out)
      have c0' : wr.cell? ⟨gb, 0, none⟩ = some (.int .i8 B.sl) := c0
      have hsl := OB.out.sl
      have hpart := in_part (AL.out.part k)
      have hbit := AL.out.bit k hlt
      have hpast := AL.out.past k hlt
      have hfin := AL.out.fin k
      have hdd := HDS.out
      clear c0
      obtain ⟨x, hx0⟩ : ∃ x, x = fat F k := ⟨_, rfl⟩
      rw [← hx0] at c1 hpart hbit hpast hfin
      have HE := hid E.out
      clear hx0
      have fin1 : ∀ (_ : Below wc.heap.size wc wr), (∃ j : Nat, j ≤ 24 ∧ Value.int .i64 ((k : Int) + 1) = .int .i64 j ∧ Below wc.heap.size wc wr) := fun h => ⟨k + 1, by omega, rfl, h⟩
      have FIN := hid fin1
      clear fin1
      by_cases hs : B.sl ≤ (k : Int)
      · obtain rfl := hpast hs
        have hz : (FloatKind.f32.format.order 0 0 == some .eq) = true := by decide
        clear hpast
        cases hl : fLt 0 bd
        · have ht : ((D : Int) / 2 ^ k).tmod 2 = 0 := by
            have hn : ¬ ((D : Int) / 2 ^ k % 2 = 1) := fun e => by rw [hbit.1 e] at hl; cases hl
            have hge : 0 ≤ (D : Int) / 2 ^ k := Int.ediv_nonneg (by omega) (Int.le_of_lt (Int.pow_pos (by omega)))
            rw [Int.tmod_eq_emod_of_nonneg hge]; omega
          unfold fLt at hl
          clear hbit
          go_wp2_with (go_at_call 30; refine (c_specIsPart _ _).mono ?_; rintro e w' ⟨rfl, rfl⟩; rw [hpart])
          exact ⟨FIN.out HE.out, by simp [intOf]; omega⟩
        · have ht : ((D : Int) / 2 ^ k).tmod 2 = 1 := by
            have hge : 0 ≤ (D : Int) / 2 ^ k := Int.ediv_nonneg (by omega) (Int.le_of_lt (Int.pow_pos (by omega)))
            rw [Int.tmod_eq_emod_of_nonneg hge]; exact hbit.2 hl
          unfold fLt at hl
          clear hbit
          go_wp2_with (go_at_call 30; refine (c_specIsPart _ _).mono ?_; rintro e w' ⟨rfl, rfl⟩; rw [hpart])
          exact ⟨FIN.out HE.out, by simp [intOf]; omega⟩
      · clear hpast
        cases hl : fLt x bd
        · have ht : ((D : Int) / 2 ^ k).tmod 2 = 0 := by
            have hn : ¬ ((D : Int) / 2 ^ k % 2 = 1) := fun e => by rw [hbit.1 e] at hl; cases hl
            have hge : 0 ≤ (D : Int) / 2 ^ k := Int.ediv_nonneg (by omega) (Int.le_of_lt (Int.pow_pos (by omega)))
            rw [Int.tmod_eq_emod_of_nonneg hge]; omega
          unfold fLt at hl
          clear hbit
          go_wp2_with (go_at_call 30; refine (c_specIsPart _ _).mono ?_; rintro e w' ⟨rfl, rfl⟩; rw [hpart])
          exact ⟨FIN.out HE.out, by simp [intOf]; omega⟩
        · have ht : ((D : Int) / 2 ^ k).tmod 2 = 1 := by
            have hge : 0 ≤ (D : Int) / 2 ^ k := Int.ediv_nonneg (by omega) (Int.le_of_lt (Int.pow_pos (by omega)))
            rw [Int.tmod_eq_emod_of_nonneg hge]; exact hbit.2 hl
          unfold fLt at hl
          clear hbit
          go_wp2_with (go_at_call 30; refine (c_specIsPart _ _).mono ?_; rintro e w' ⟨rfl, rfl⟩; rw [hpart])
          exact ⟨FIN.out HE.out, by simp [intOf]; omega⟩
    · have hge : ¬ (k : Int) < 24 := by omega
      clear hlt
      have hb := E.out
      replace BB := hid ((hb.block _ (block_lt BB.out)).trans BB.out)
      replace X0 := hid (bts_below' X0.out hb)
      replace X1 := hid (bts_below' X1.out hb)
      replace BW := hid (below_trans BW.out hb BW.out.size)
      clear hb E B2 AL HDS LF
      go_wp2_with (first | (refine wpList_load_row rfl 30 _ rfl (gb) rfl 30 (bcells B) (0, 0) _ BB.out Try.underlying30 rfl (size_blind' _) ?_))
      refine (c_A2Sun _ a0 n0 c0 HN0.out X0.out).mono ?_
      rintro e w11 ⟨⟨hs1, ts1, lh1, lt1, ok1, rfl⟩, hb⟩
      replace BB := hid ((hb.block _ (block_lt BB.out)).trans BB.out)
      replace X0 := hid (bts_below' X0.out hb)
      replace X1 := hid (bts_below' X1.out hb)
      replace BW := hid (below_trans BW.out hb BW.out.size)
      clear hb
      have LH1 := hid lh1
      have LT1 := hid lt1
      have OK1 := hid ok1
      clear lh1 lt1 ok1
      go_wp2_with (first | (refine wpList_load_row rfl 30 _ rfl (gb) rfl 30 (bcells B) (0, 0) _ BB.out Try.underlying30 rfl (size_blind' _) ?_))
      refine (c_A2Sun _ a1 n1 c1 HN1.out X1.out).mono ?_
      rintro e w12 ⟨⟨hs2, ts2, lh2, lt2, ok2, rfl⟩, hb⟩
      replace BB := hid ((hb.block _ (block_lt BB.out)).trans BB.out)
      replace X0 := hid (bts_below' X0.out hb)
      replace X1 := hid (bts_below' X1.out hb)
      replace BW := hid (below_trans BW.out hb BW.out.size)
      clear hb
      have LH2 := hid lh2
      have LT2 := hid lt2
      have OK2 := hid ok2
      clear lh2 lt2 ok2
      obtain ⟨ie, z, hie, hz, hsz⟩ := info_sun
      obtain ⟨r, hr, hrw⟩ := two_built LH1.out LT1.out LH2.out LT2.out ((Array.range (2 * 48)).map (z.cells[· % z.cells.size]!)) (by simp)
      have HR : Hid (Instr.fill (fun i => some (i * ie.size, ie.size)) ((Array.range (2 * ie.size)).map (z.cells[· % z.cells.size]!)) [(0, .agg (scells hs1 ts1)), (1, .agg (scells hs2 ts2))] = some r) := hid (by rw [hsz]; exact hr)
      have HIE := hid hie
      have HZ := hid hz
      have HS1 := hid (show ¬ 2 * ie.size > 2 ^ 24 by rw [hsz]; decide)
      have HS2 := hid (show ¬ 2 * ie.size = 0 by rw [hsz]; decide)
      have RW := hid (hrw w12)
      obtain ⟨hok, hss⟩ := two_ok LH1.out LT1.out LH2.out LT2.out OK1.out OK2.out
      have HOK := hid hok
      have HSS := hid hss
      have PD : Hid (∀ (i : Nat) (f : Int) (w : World), i < 2 → 0 ≤ f ∧ f ≤ 255 → Calls Try.prog 37 #[.agg (bcells B), .agg (scs (two hs1 hs2) (two ts1 ts2) i).toArray, .int .i64 f] w fun e w' => e = .returned (.tuple #[.float .f32 (dayW B (two hs1 hs2 i) (two ts1 ts2 i) f), .int .i64 0]) ∧ Below w.heap.size w w') := hid (fun i f w hi hf => c_implPassDay B OB.out BK.out _ _ (HOK.out i hi).1 (HOK.out i hi).2.1 (HOK.out i hi).2.2.1 (HOK.out i hi).2.2.2 (okSs_at HSS.out hi) f hf w)
      have SL : Hid (∀ i, i < 2 → (Try.prog.info? 59).map (·.size) = some (scs (two hs1 hs2) (two ts1 ts2) i).length) := hid (fun i hi => by rw [scs_len HOK.out hi]; kernel_rfl)
      have hb : Below w12.heap.size w12 (w12.alloc (.cells r 59)) := (Below.refl _ _).alloc (Nat.le_refl _) _
      clear hie hz hr hrw hsz hok hss
      replace BB := hid ((hb.block _ (block_lt BB.out)).trans BB.out)
      replace X0 := hid (bts_below' X0.out hb)
      replace X1 := hid (bts_below' X1.out hb)
      replace BW := hid (below_trans BW.out hb BW.out.size)
      clear hb
      go_wp2_with (first | (refine wpList_load_row rfl 30 _ rfl (gb) rfl 30 (bcells B) (0, 0) _ BB.out Try.underlying30 rfl (size_blind' _) ?_) | (refine wpList_buildSlice rfl 61 59 2 _ rfl r ie z Try.underlying61 HIE.out HZ.out HS1.out HS2.out (by rw [Array.toList_map]; exact HR.out) ?_))
      refine (c_a2At a0 n0 c0 0 256 (by omega) (by omega) (by omega) _ X0.out).mono ?_
      rintro e w13 ⟨⟨fc, hfc, rfl⟩, rfl⟩
      obtain ⟨d, bi, g, bj, YA⟩ := year_all WF.out OB.out BK.out HOK.out HSS.out (f := (fc : Int)) (by omega) (by omega)
      have FC := hid (show (0 : Int) ≤ (fc : Int) ∧ (fc : Int) ≤ 255 by omega)
      obtain ⟨pb, hpb⟩ : ∃ pb : Nat, pb = bj * 40 := ⟨_, rfl⟩
      have Y := hid YA
      have CF1 := hid (fun a ca w h => YA.fImpl a ca w h)
      have CF2 := hid (fun a ca w h => YA.fSpec a ca w h)
      rw [← hpb] at CF1 CF2
      have PB := hid hpb
      clear YA hfc hpb LH1 LT1 OK1 LH2 LT2 OK2 HN0 HN1 X0 X1 WF
      go_wp2_with (first | (refine wpList_load_row rfl 30 _ rfl (gb) rfl 30 (bcells B) (0, 0) _ BB.out Try.underlying30 rfl (size_blind' _) ?_))
      refine (Y.out.year _ _ _ RW.out).mono ?_
      rintro e w14 ⟨⟨q, cb, rfl, hq⟩, hb⟩
      replace BB := hid ((hb.block _ (block_lt BB.out)).trans BB.out)
      replace RW := hid (RW.out.below hb)
      replace BW := hid (below_trans BW.out hb BW.out.size)
      clear hb
      have YQ := hid hq
      clear hq
      go_wp2_with (first | (refine wpList_load_row rfl 30 _ rfl (gb) rfl 30 (bcells B) (0, 0) _ BB.out Try.underlying30 rfl (size_blind' _) ?_))
      refine (Y.out.mImpl _ _ _ RW.out).mono ?_
      rintro e w15 ⟨rfl, hb⟩
      replace BB := hid ((hb.block _ (block_lt BB.out)).trans BB.out)
      replace RW := hid (RW.out.below hb)
      replace YQ := hid (fun i hi => cell_stays hb (YQ.out i hi))
      replace BW := hid (below_trans BW.out hb BW.out.size)
      clear hb
      go_wp2_with (first | (refine wpList_load_row rfl 30 _ rfl (gb) rfl 30 (bcells B) (0, 0) _ BB.out Try.underlying30 rfl (size_blind' _) ?_))
      refine (Y.out.mSpec _ _ _ RW.out).mono ?_
      rintro e w16 ⟨rfl, hb⟩
      replace BB := hid ((hb.block _ (block_lt BB.out)).trans BB.out)
      replace RW := hid (RW.out.below hb)
      replace YQ := hid (fun i hi => cell_stays hb (YQ.out i hi))
      replace BW := hid (below_trans BW.out hb BW.out.size)
      clear hb
      go_wp2_with (first | (refine wpList_load_row rfl 30 _ rfl (gb) rfl 30 (bcells B) (0, 0) _ BB.out Try.underlying30 rfl (size_blind' _) ?_))
      refine (CF1.out _ _ _ RW.out).mono ?_
      rintro e w17 ⟨rfl, hb⟩
      replace BB := hid ((hb.block _ (block_lt BB.out)).trans BB.out)
      replace RW := hid (RW.out.below hb)
      replace YQ := hid (fun i hi => cell_stays hb (YQ.out i hi))
      replace BW := hid (below_trans BW.out hb BW.out.size)
      clear hb
      go_wp2_with (first | (refine wpList_load_row rfl 30 _ rfl (gb) rfl 30 (bcells B) (0, 0) _ BB.out Try.underlying30 rfl (size_blind' _) ?_))
      refine (CF2.out _ _ _ RW.out).mono ?_
      rintro e w18 ⟨rfl, hb⟩
      replace BB := hid ((hb.block _ (block_lt BB.out)).trans BB.out)
      replace RW := hid (RW.out.below hb)
      replace YQ := hid (fun i hi => cell_stays hb (YQ.out i hi))
      replace BW := hid (below_trans BW.out hb BW.out.size)
      clear hb
      have fd := Y.out.dfin bi Y.out.best
      have fg := Y.out.gfin bj Y.out.faced
      have FD := hid fd
      have FG := hid fg
      clear fd fg CF1 CF2
      go_wp2_with (go_at_call 15; first | (with_reducible refine (c_specSameNumber FD.out _).mono ?_; rintro e w' ⟨rfl, rfl⟩) | (with_reducible refine (c_specSameNumber FG.out _).mono ?_; rintro e w' ⟨rfl, rfl⟩))
      go_loopw [38] (fun i wr => ∃ k : Nat, k ≤ 2 ∧ i = .int .i64 k ∧ Below w18.heap.size w18 wr) (fun i _ => 2 - (intOf i).toNat)
      case atStart => exact ⟨0, by omega, rfl, Below.refl _ _⟩
      case round =>
        obtain ⟨k, hk, rfl, hbel⟩ := hrel
        have E := hid hbel
        clear hbel
        by_cases hlt : k < 2
        · have hlt' : (k : Int) < 2 := by omega
          have fcb := FC.out
          have BE := hid ((E.out.block _ (block_lt BB.out)).trans BB.out)
          obtain ⟨_, _, hse, hrr⟩ := RW.out.at_ (by omega)
          cases hse
          have RE : Hid (wr.rangeAt w12.heap.size (k * 48) (scs (two hs1 hs2) (two ts1 ts2) k)) := hid (by have := range_below (hrr k hlt) E.out; rwa [Nat.zero_add] at this)
          clear hrr
          go_wp2_with fail
          refine wp_region_below (by kernel_rfl) (by kernel_rfl) ?_
          repeat (first | (refine wpQuiet_load_row rfl 30 _ rfl (gb) rfl 30 (bcells B) (0, 0) _ (fun wx hwx => (hwx.out.block _ (block_lt BE.out)).trans BE.out) Try.underlying30 rfl (size_blind' _) ?_) | (refine wpQuiet_load_mid rfl 59 _ rfl w12.heap.size (k * 48) rfl (scs (two hs1 hs2) (two ts1 ts2) k) _ (fun wx hwx => range_below RE.out hwx.out) Try.underlying59 rfl (SL.out k (by omega)) ?_) | (refine wpQuiet_step (fun K hK => ?_); go_simp; first | (refine hK _ ?_; clear hK K) | (refine ⟨_, fun _ _ => rfl, hK _ ?_⟩; clear hK K) | (apply Exists.intro; refine ⟨fun wx hwx => ?_, hK _ ?_⟩; (first | with_reducible exact quiet_below hwx (PD.out k (fc : Int) _ (by omega) (by omega))); clear hK K)))
          refine wpQuiet_nil ?_
          intro wq hq2
          replace hq2 := hq2.out
          have E2 := hid (below_trans E.out hq2 E.out.size)
          have cq := cell_stays E2.out (YQ.out k hlt)
          have FIN : Hid (∀ w', Below w18.heap.size w18 w' → (∃ j : Nat, j ≤ 2 ∧ Value.int .i64 ((k : Int) + 1) = .int .i64 j ∧ Below w18.heap.size w18 w')) := hid (fun w' h => ⟨k + 1, by omega, rfl, h⟩)
          have hdk := Y.out.dIs k hlt
          have f1 := Y.out.dfin k hlt
          have f2 := FD.out
          have hmost := Y.out.most k hlt
          have hfirst := Y.out.first k
          have hbest := Y.out.best
          rw [← hdk]
          have e1 : FloatKind.f32.format.order (d k) (d k) = some .eq := order_self_fin f1
          have e3 : FloatKind.f32.format.order (d k) (d bi) = some (compare (fx (d k)) (fx (d bi))) := order_fin f1 f2
          clear hq2 hdk f1 f2
          have hk1 : k + 1 ≤ 2 := by omega
          rcases Nat.lt_trichotomy k bi with h | h | h
          · rw [cmp_lt.2 (hfirst h)] at e3
            have e5 : ¬ (k : Int) = (bi : Int) := by omega
            have e6 : (k : Int) < (bi : Int) := by omega
            clear hfirst hmost h
            go_wp2
            exact ⟨FIN.out _ E2.out, by simp [intOf]; omega⟩
          · subst h
            clear hfirst hmost e3
            go_wp2
            exact ⟨FIN.out _ E2.out, by simp [intOf]; omega⟩
          · have e5 : ¬ (k : Int) = (bi : Int) := by omega
            have e6 : ¬ (k : Int) < (bi : Int) := by omega
            clear hfirst h
            by_cases hx0 : fx (d k) < fx (d bi)
            · rw [cmp_lt.2 hx0] at e3
              clear hx0 hmost
              go_wp2
              exact ⟨FIN.out _ E2.out, by simp [intOf]; omega⟩
            · rw [cmp_eq.2 (by omega)] at e3
              clear hx0 hmost
              go_wp2
              exact ⟨FIN.out _ E2.out, by simp [intOf]; omega⟩
        · have hge : ¬ (k : Int) < 2 := by omega
          clear hlt
          have hb := E.out
          replace BB := hid ((hb.block _ (block_lt BB.out)).trans BB.out)
          replace RW := hid (RW.out.below hb)
          replace BW := hid (below_trans BW.out hb BW.out.size)
          clear hb E YQ
          obtain ⟨wg, hwg⟩ : ∃ wg, wg = wr := ⟨_, rfl⟩
          rw [← hwg] at BB RW BW ⊢
          clear hwg
          go_wp2_with fail
          go_loopw [41] (fun i wr => ∃ j p : Nat, Hid (p = j * 40) ∧ j ≤ 7 ∧ i = .int .i64 p ∧ Below wg.heap.size wg wr) (fun i _ => 400 - (intOf i).toNat)
          case atStart => exact ⟨0, 0, hid rfl, by omega, rfl, Below.refl _ _⟩
          case round =>
            obtain ⟨j, p, hpH, hj, rfl, hbel⟩ := hrel
            have hp := hpH.out
            clear hpH
            have E := hid hbel
            clear hbel
            by_cases hlt : j < 7
            · have hlt' : (p : Int) < 256 := by omega
              have HP := hid hp
              clear hp
              have BE := hid ((E.out.block _ (block_lt BB.out)).trans BB.out)
              obtain ⟨_, _, hse, hrr⟩ := RW.out.at_ (by omega)
              cases hse
              have RE : Hid (wr.rangeAt w12.heap.size 0 (scs (two hs1 hs2) (two ts1 ts2) 0)) := hid (range_below (hrr 0 (by omega)) E.out)
              have RE1 : Hid (wr.rangeAt w12.heap.size 48 (scs (two hs1 hs2) (two ts1 ts2) 1)) := hid (range_below (hrr 1 (by omega)) E.out)
              clear hrr
              go_wp2_with fail
              refine wp_region_below (by kernel_rfl) (by kernel_rfl) ?_
              repeat (first | (refine wpQuiet_load_row rfl 30 _ rfl (gb) rfl 30 (bcells B) (0, 0) _ (fun wx hwx => (hwx.out.block _ (block_lt BE.out)).trans BE.out) Try.underlying30 rfl (size_blind' _) ?_) | (refine wpQuiet_load_mid rfl 59 _ rfl w12.heap.size (0) rfl (scs (two hs1 hs2) (two ts1 ts2) 0) _ (fun wx hwx => range_below RE.out hwx.out) Try.underlying59 rfl (SL.out 0 (by omega)) ?_) | (refine wpQuiet_step (fun K hK => ?_); go_simp; first | (refine hK _ ?_; clear hK K) | (refine ⟨_, fun _ _ => rfl, hK _ ?_⟩; clear hK K) | (apply Exists.intro; refine ⟨fun wx hwx => ?_, hK _ ?_⟩; (first | with_reducible exact quiet_below hwx (PD.out 0 (p : Int) _ (by omega) (by omega))); clear hK K)))
              refine wpQuiet_nil ?_
              intro wq hq2
              replace hq2 := hq2.out
              have E2 := hid (below_trans E.out hq2 E.out.size)
              replace BE := hid ((hq2.block _ (block_lt BE.out)).trans BE.out)
              replace RE := hid (range_below RE1.out hq2)
              clear hq2 RE1
              go_wp2_with fail
              refine wp_region_below (by kernel_rfl) (by kernel_rfl) ?_
              repeat (first | (refine wpQuiet_load_row rfl 30 _ rfl (gb) rfl 30 (bcells B) (0, 0) _ (fun wx hwx => (hwx.out.block _ (block_lt BE.out)).trans BE.out) Try.underlying30 rfl (size_blind' _) ?_) | (refine wpQuiet_load_mid rfl 59 _ rfl w12.heap.size (48) rfl (scs (two hs1 hs2) (two ts1 ts2) 1) _ (fun wx hwx => range_below RE.out hwx.out) Try.underlying59 rfl (SL.out 1 (by omega)) ?_) | (refine wpQuiet_step (fun K hK => ?_); go_simp; first | (refine hK _ ?_; clear hK K) | (refine ⟨_, fun _ _ => rfl, hK _ ?_⟩; clear hK K) | (apply Exists.intro; refine ⟨fun wx hwx => ?_, hK _ ?_⟩; (first | with_reducible exact quiet_below hwx (PD.out 1 (p : Int) _ (by omega) (by omega))); clear hK K)))
              refine wpQuiet_nil ?_
              intro wq2 hq3
              replace hq3 := hq3.out
              have E3 := hid (below_trans E2.out hq3 E2.out.size)
              clear hq3 E2 BE RE
              have hgj := Y.out.gIs j (by omega)
              rw [← HP.out] at hgj
              have fx0 : isFin (dayW B (two hs1 hs2 0) (two ts1 ts2 0) (p : Int)) = true := (day_in OB.out (okSs_at HSS.out (by omega)) _).fin
              have fy0 : isFin (dayW B (two hs1 hs2 1) (two ts1 ts2 1) (p : Int)) = true := (day_in OB.out (okSs_at HSS.out (by omega)) _).fin
              have fs0 : isFin (fadd 0 (dayW B (two hs1 hs2 0) (two ts1 ts2 0) (p : Int))) = true := ((In0.zero 0 (by decide)).add (day_in OB.out (okSs_at HSS.out (by omega)) (p : Int)) (by decide +kernel)).fin
              generalize dayW B (two hs1 hs2 0) (two ts1 ts2 0) (p : Int) = x at *
              generalize dayW B (two hs1 hs2 1) (two ts1 ts2 1) (p : Int) = y at *
              have f1 := Y.out.gfin j (by omega)
              have f2 := FG.out
              have hmost := Y.out.gmost j (by omega)
              have hfirst := Y.out.gfirst j
              have hpb := PB.out
              have hp := HP.out
              have hp6 : p + 40 = (j + 1) * 40 := by omega
              have hj7 : j + 1 ≤ 7 := by omega
              have ha1 : ∀ wx, (binOp .add 27 (.float .f32 0) (.float .f32 x)).run Try.prog wx = .ok (.float .f32 (fadd 0 x)) wx := run_add (T := 27) (by decide) fx0
              have ha2 : ∀ wx, (binOp .add 27 (.float .f32 (fadd 0 x)) (.float .f32 y)).run Try.prog wx = .ok (.float .f32 (g j)) wx := by rw [hgj]; exact run_add (T := 27) fs0 fy0
              have HP6 := hid hp6
              clear hp6
              have FIN : Hid (∀ w', Below wg.heap.size wg w' → (∃ j' p' : Nat, Hid (p' = j' * 40) ∧ j' ≤ 7 ∧ Value.int .i64 ((p : Int) + 40) = .int .i64 p' ∧ Below wg.heap.size wg w')) := hid (fun w' h => ⟨j + 1, p + 40, HP6, hj7, rfl, h⟩)
              have e1 : FloatKind.f32.format.order (g j) (g j) = some .eq := order_self_fin f1
              have e3 : FloatKind.f32.format.order (g j) (g bj) = some (compare (fx (g j)) (fx (g bj))) := order_fin f1 f2
              clear fs0 hgj fx0 fy0
              rcases Nat.lt_trichotomy j bj with h | h | h
              · rw [cmp_lt.2 (hfirst h)] at e3
                have e5 : ¬ (p : Int) = (pb : Int) := by omega
                have e6 : (p : Int) < (pb : Int) := by omega
                clear hfirst hmost f1 f2 hp hpb h
                go_wp2
                first | exact ⟨FIN.out _ E3.out, by simp [intOf]; omega⟩ | exact ⟨⟨j + 1, p + 40, HP6, hj7, rfl, E3.out⟩, by simp [intOf]; omega⟩
              · subst h
                have hpp : p = pb := by omega
                clear hfirst hmost e3 f1 f2 hp hpb
                subst hpp
                go_wp2
                first | exact ⟨FIN.out _ E3.out, by simp [intOf]; omega⟩ | exact ⟨⟨j + 1, p + 40, HP6, hj7, rfl, E3.out⟩, by simp [intOf]; omega⟩
              · have e5 : ¬ (p : Int) = (pb : Int) := by omega
                have e6 : ¬ (p : Int) < (pb : Int) := by omega
                clear hfirst hp hpb h
                by_cases hx0 : fx (g j) < fx (g bj)
                · rw [cmp_lt.2 hx0] at e3
                  clear hx0 hmost f1 f2
                  go_wp2
                  first | exact ⟨FIN.out _ E3.out, by simp [intOf]; omega⟩ | exact ⟨⟨j + 1, p + 40, HP6, hj7, rfl, E3.out⟩, by simp [intOf]; omega⟩
                · rw [cmp_eq.2 (by omega)] at e3
                  clear hx0 hmost f1 f2
                  go_wp2
                  first | exact ⟨FIN.out _ E3.out, by simp [intOf]; omega⟩ | exact ⟨⟨j + 1, p + 40, HP6, hj7, rfl, E3.out⟩, by simp [intOf]; omega⟩
            · obtain rfl : j = 7 := by omega
              have hge : ¬ (p : Int) < 256 := by omega
              have B9 := hid (below_trans BW.out E.out BW.out.size)
              clear hp
              go_wp2
              go_ret
              exact ⟨rfl, B9.out⟩

set_option maxHeartbeats 8000000 in
theorem walk (a0 : Option Addr) (n0 c0 : Nat) (a1 : Option Addr) (n1 c1 : Nat) (w : World) (_m0 : n0 ≤ 9223372036854775807) (x0 : Bts w a0 n0) (_m1 : n1 ≤ 9223372036854775807) (x1 : Bts w a1 n1) :
    Calls Try.prog 4 #[.slice a0 n0 c0, .slice a1 n1 c1] w fun e w' => e = .returned (.bool true) ∧ Below w.heap.size w w' := by
  have X0 := hid x0
  have X1 := hid x1
  clear x0 x1
  by_cases hl : 3000 < n0 ∨ 3000 < n1
  case pos =>
    have e0 : (decide (3000 < n0) || decide (3000 < n1)) = true := by simpa using hl
    go_enter Try.func4, Try.ntmps4
    go_wp2_with (go_at_call 5; refine (c_a2Long _ _ _ _ _ _ _).mono ?_; rintro e w' ⟨rfl, rfl⟩; rw [e0])
    go_ret
    exact ⟨rfl, Below.refl _ _⟩
  have e0 : (decide (3000 < n0) || decide (3000 < n1)) = false := by simp; omega
  have HN0 := hid (show n0 ≤ 4096 by omega)
  have HN1 := hid (show n1 ≤ 4096 by omega)
  have BW := hid (Below.refl w.heap.size w)
  clear hl
  go_enter Try.func4, Try.ntmps4
  go_wp2_with (first | (go_at_call 5; refine (c_a2Long _ _ _ _ _ _ _).mono ?_; rintro e w' ⟨rfl, rfl⟩; rw [e0]))
  refine (c_A2Blind w a0 n0 c0 HN0.out X0.out).mono ?_
  rintro e w1 ⟨⟨B, hB, hk, rfl⟩, hb⟩
  replace X0 := hid (bts_below' X0.out hb)
  replace X1 := hid (bts_below' X1.out hb)
  replace BW := hid (below_trans BW.out hb BW.out.size)
  clear hb
  have WF := hid hB
  have BK := hid hk
  have OB := hid (OkB.of hB hk)
  clear e0 hB hk
  obtain ⟨pb, pc, hb⟩ := put_new BW.out (bcells zB) (bcells B) 30
  replace X0 := hid (bts_below' X0.out hb)
  replace X1 := hid (bts_below' X1.out hb)
  have BB := hid pc
  replace BW := hid pb
  clear pb pc hb
  go_wp2_with (first | (refine wpList_load_row rfl 30 _ rfl (w1.heap.size) rfl 30 (bcells B) (0, 0) _ BB.out Try.underlying30 rfl (size_blind' _) ?_) | (refine wpList_store_row rfl 30 _ _ rfl w1.heap.size (bcells B) rfl rfl 30 (bcells zB) (blk_at _ _ _ rfl) (size_blind' _) rfl (bcells_one _) ?_))
  refine (c_A2Bits _ a1 n1 c1 B WF.out OB.out HN1.out X1.out).mono ?_
  rintro e w2 ⟨⟨m, hm, rfl⟩, hb⟩
  replace BB := hid ((hb.block _ (block_lt BB.out)).trans BB.out)
  replace X0 := hid (bts_below' X0.out hb)
  replace X1 := hid (bts_below' X1.out hb)
  replace BW := hid (below_trans BW.out hb BW.out.size)
  clear hb
  have HM := hid hm
  clear hm
  go_wp2_with (first | (refine wpList_load_row rfl 30 _ rfl (w1.heap.size) rfl 30 (bcells B) (0, 0) _ BB.out Try.underlying30 rfl (size_blind' _) ?_))
  refine (c_a2At a1 n1 c1 4 64 (by omega) (by omega) (by omega) _ X1.out).mono ?_
  rintro e w3 ⟨⟨hx, hx1, rfl⟩, rfl⟩
  have hx2 : (1 : Int) ≤ 1 + (hx : Int) ∧ 1 + (hx : Int) ≤ 64 := by omega
  have HX := hid hx2
  go_wp2_with (first | (refine wpList_load_row rfl 30 _ rfl (w1.heap.size) rfl 30 (bcells B) (0, 0) _ BB.out Try.underlying30 rfl (size_blind' _) ?_))
  refine (c_A2Part _ a1 n1 c1 HN1.out X1.out).mono ?_
  rintro e w4 ⟨⟨bd, hbd, rfl⟩, hb⟩
  replace BB := hid ((hb.block _ (block_lt BB.out)).trans BB.out)
  replace X0 := hid (bts_below' X0.out hb)
  replace X1 := hid (bts_below' X1.out hb)
  replace BW := hid (below_trans BW.out hb BW.out.size)
  clear hb
  clear hx1 hx2
  obtain ⟨m', D, F, FA⟩ := floor_all WF.out OB.out BK.out HX.out.1 HX.out.2 HM.out hbd
  have AL := hid FA
  have BD := hid hbd
  have LF := hid FA.len
  have szF : (Try.prog.info? 48).map (·.size) = some (f32s F).size := by rw [f32s_size, FA.len]; kernel_rfl
  have SF := hid szF
  have HF0 : Hid (zF.size = (f32s F).size) := hid (by rw [f32s_size, FA.len]; rfl)
  clear FA hbd szF
  go_wp2_with (first | (refine wpList_load_row rfl 30 _ rfl (w1.heap.size) rfl 30 (bcells B) (0, 0) _ BB.out Try.underlying30 rfl (size_blind' _) ?_))
  refine (AL.out.fImpl _).mono ?_
  rintro e w5 ⟨rfl, hb⟩
  replace BB := hid ((hb.block _ (block_lt BB.out)).trans BB.out)
  replace X0 := hid (bts_below' X0.out hb)
  replace X1 := hid (bts_below' X1.out hb)
  replace BW := hid (below_trans BW.out hb BW.out.size)
  clear hb
  obtain ⟨pb, pc, hb⟩ := put_new BW.out (zF) (f32s F) 48
  replace BB := hid ((hb.block _ (block_lt BB.out)).trans BB.out)
  replace X0 := hid (bts_below' X0.out hb)
  replace X1 := hid (bts_below' X1.out hb)
  have B1 := hid pc
  replace BW := hid pb
  clear pb pc hb
  go_wp2_with (first | (refine wpList_load_row rfl 30 _ rfl (w1.heap.size) rfl 30 (bcells B) (0, 0) _ BB.out Try.underlying30 rfl (size_blind' _) ?_) | (refine wpList_load_row rfl 48 _ rfl (w5.heap.size) rfl 48 (f32s F) (0, 0) _ B1.out Try.underlying48 rfl SF.out ?_) | (refine wpList_store_row rfl 48 _ _ rfl w5.heap.size (f32s F) rfl rfl 48 (zF) (blk_at _ _ _ rfl) SF.out HF0.out (f32s_one _) ?_))
  refine (AL.out.fSpec _).mono ?_
  rintro e w6 ⟨rfl, hb⟩
  replace BB := hid ((hb.block _ (block_lt BB.out)).trans BB.out)
  replace B1 := hid ((hb.block _ (block_lt B1.out)).trans B1.out)
  replace X0 := hid (bts_below' X0.out hb)
  replace X1 := hid (bts_below' X1.out hb)
  replace BW := hid (below_trans BW.out hb BW.out.size)
  clear hb
  obtain ⟨pb, pc, hb⟩ := put_new BW.out (zF) (f32s F) 48
  replace BB := hid ((hb.block _ (block_lt BB.out)).trans BB.out)
  replace B1 := hid ((hb.block _ (block_lt B1.out)).trans B1.out)
  replace X0 := hid (bts_below' X0.out hb)
  replace X1 := hid (bts_below' X1.out hb)
  have B2 := hid pc
  replace BW := hid pb
  clear pb pc hb
  go_wp2_with (first | (refine wpList_load_row rfl 30 _ rfl (w1.heap.size) rfl 30 (bcells B) (0, 0) _ BB.out Try.underlying30 rfl (size_blind' _) ?_) | (refine wpList_load_row rfl 48 _ rfl (w5.heap.size) rfl 48 (f32s F) (0, 0) _ B1.out Try.underlying48 rfl SF.out ?_) | (refine wpList_load_row rfl 48 _ rfl (w6.heap.size) rfl 48 (f32s F) (0, 0) _ B2.out Try.underlying48 rfl SF.out ?_) | (refine wpList_store_row rfl 48 _ _ rfl w6.heap.size (f32s F) rfl rfl 48 (zF) (blk_at _ _ _ rfl) SF.out HF0.out (f32s_one _) ?_))
  refine (AL.out.bImpl _).mono ?_
  rintro e w7 ⟨rfl, hb⟩
  replace BB := hid ((hb.block _ (block_lt BB.out)).trans BB.out)
  replace B1 := hid ((hb.block _ (block_lt B1.out)).trans B1.out)
  replace B2 := hid ((hb.block _ (block_lt B2.out)).trans B2.out)
  replace X0 := hid (bts_below' X0.out hb)
  replace X1 := hid (bts_below' X1.out hb)
  replace BW := hid (below_trans BW.out hb BW.out.size)
  clear hb
  go_wp2_with (first | (refine wpList_load_row rfl 30 _ rfl (w1.heap.size) rfl 30 (bcells B) (0, 0) _ BB.out Try.underlying30 rfl (size_blind' _) ?_) | (refine wpList_load_row rfl 48 _ rfl (w5.heap.size) rfl 48 (f32s F) (0, 0) _ B1.out Try.underlying48 rfl SF.out ?_) | (refine wpList_load_row rfl 48 _ rfl (w6.heap.size) rfl 48 (f32s F) (0, 0) _ B2.out Try.underlying48 rfl SF.out ?_))
  refine (AL.out.bSpec _).mono ?_
  rintro e w8 ⟨rfl, hb⟩
  replace BB := hid ((hb.block _ (block_lt BB.out)).trans BB.out)
  replace B1 := hid ((hb.block _ (block_lt B1.out)).trans B1.out)
  replace B2 := hid ((hb.block _ (block_lt B2.out)).trans B2.out)
  replace X0 := hid (bts_below' X0.out hb)
  replace X1 := hid (bts_below' X1.out hb)
  replace BW := hid (below_trans BW.out hb BW.out.size)
  clear hb
  go_wp2_with (first | (refine wpList_load_row rfl 30 _ rfl (w1.heap.size) rfl 30 (bcells B) (0, 0) _ BB.out Try.underlying30 rfl (size_blind' _) ?_) | (refine wpList_load_row rfl 48 _ rfl (w5.heap.size) rfl 48 (f32s F) (0, 0) _ B1.out Try.underlying48 rfl SF.out ?_) | (refine wpList_load_row rfl 48 _ rfl (w6.heap.size) rfl 48 (f32s F) (0, 0) _ B2.out Try.underlying48 rfl SF.out ?_))
  refine (AL.out.fAgain _).mono ?_
  rintro e w9 ⟨rfl, hb⟩
  replace BB := hid ((hb.block _ (block_lt BB.out)).trans BB.out)
  replace B1 := hid ((hb.block _ (block_lt B1.out)).trans B1.out)
  replace B2 := hid ((hb.block _ (block_lt B2.out)).trans B2.out)
  replace X0 := hid (bts_below' X0.out hb)
  replace X1 := hid (bts_below' X1.out hb)
  replace BW := hid (below_trans BW.out hb BW.out.size)
  clear hb
  obtain ⟨pb, pc, hb⟩ := put_new BW.out (zF) (f32s F) 48
  replace BB := hid ((hb.block _ (block_lt BB.out)).trans BB.out)
  replace B1 := hid ((hb.block _ (block_lt B1.out)).trans B1.out)
  replace B2 := hid ((hb.block _ (block_lt B2.out)).trans B2.out)
  replace X0 := hid (bts_below' X0.out hb)
  replace X1 := hid (bts_below' X1.out hb)
  have B3 := hid pc
  replace BW := hid pb
  clear pb pc hb
  go_wp2_with (first | (refine wpList_load_row rfl 30 _ rfl (w1.heap.size) rfl 30 (bcells B) (0, 0) _ BB.out Try.underlying30 rfl (size_blind' _) ?_) | (refine wpList_load_row rfl 48 _ rfl (w5.heap.size) rfl 48 (f32s F) (0, 0) _ B1.out Try.underlying48 rfl SF.out ?_) | (refine wpList_load_row rfl 48 _ rfl (w6.heap.size) rfl 48 (f32s F) (0, 0) _ B2.out Try.underlying48 rfl SF.out ?_) | (refine wpList_load_row rfl 48 _ rfl (w9.heap.size) rfl 48 (f32s F) (0, 0) _ B3.out Try.underlying48 rfl SF.out ?_) | (refine wpList_store_row rfl 48 _ _ rfl w9.heap.size (f32s F) rfl rfl 48 (zF) (blk_at _ _ _ rfl) SF.out HF0.out (f32s_one _) ?_))
  refine (AL.out.dImpl _).mono ?_
  rintro e w10 ⟨rfl, hb⟩
  replace BB := hid ((hb.block _ (block_lt BB.out)).trans BB.out)
  replace B1 := hid ((hb.block _ (block_lt B1.out)).trans B1.out)
  replace B2 := hid ((hb.block _ (block_lt B2.out)).trans B2.out)
  replace B3 := hid ((hb.block _ (block_lt B3.out)).trans B3.out)
  replace X0 := hid (bts_below' X0.out hb)
  replace X1 := hid (bts_below' X1.out hb)
  replace BW := hid (below_trans BW.out hb BW.out.size)
  clear hb
  have hkn := AL.out.known
  have kn1 : ¬ (m' = m) → (m' : Int) = 0 := fun h => by rcases hkn with h' | h' <;> omega
  clear hkn
  have kn2 : m' = m ∨ (¬ (m' : Int) = (m : Int) ∧ m' = 0) := by
    by_cases h : m' = m
    · exact .inl h
    · exact .inr ⟨by omega, by have := kn1 h; omega⟩
  clear kn1
  have HDS := hid AL.out.small
  go_upto_region 13 with fail
  go_cut [156] (fun s wx => s = .bool false ∧ Below w10.heap.size w10 wx)
  case first =>
    have BZ := hid (Below.refl w10.heap.size w10)
    rcases kn2 with kn2 | ⟨kn2, kn3⟩
    · subst kn2
      go_wp2_with (first | (refine wpList_load_rowg rfl 30 _ rfl (w1.heap.size) rfl 30 (bcells B) (0, 0) _ BB.out Try.underlying30 rfl (size_blind' _) ?_) | (refine wpList_load_rowg rfl 48 _ rfl (w5.heap.size) rfl 48 (f32s F) (0, 0) _ B1.out Try.underlying48 rfl SF.out ?_) | (refine wpList_load_rowg rfl 48 _ rfl (w6.heap.size) rfl 48 (f32s F) (0, 0) _ B2.out Try.underlying48 rfl SF.out ?_) | (refine wpList_load_rowg rfl 48 _ rfl (w9.heap.size) rfl 48 (f32s F) (0, 0) _ B3.out Try.underlying48 rfl SF.out ?_) | (go_at_call 28; refine (AL.out.sSpec _).mono ?_; rintro e we ⟨rfl, hb⟩; replace BB := hid ((hb.block _ (block_lt BB.out)).trans BB.out); replace B1 := hid ((hb.block _ (block_lt B1.out)).trans B1.out); replace B2 := hid ((hb.block _ (block_lt B2.out)).trans B2.out); replace B3 := hid ((hb.block _ (block_lt B3.out)).trans B3.out); replace X0 := hid (bts_below' X0.out hb); replace X1 := hid (bts_below' X1.out hb); replace BW := hid (below_trans BW.out hb BW.out.size); replace BZ := hid (below_trans BZ.out hb BZ.out.size); clear hb) | (go_at_call 29; refine (AL.out.sImpl _).mono ?_; rintro e we ⟨rfl, hb⟩; replace BB := hid ((hb.block _ (block_lt BB.out)).trans BB.out); replace B1 := hid ((hb.block _ (block_lt B1.out)).trans B1.out); replace B2 := hid ((hb.block _ (block_lt B2.out)).trans B2.out); replace B3 := hid ((hb.block _ (block_lt B3.out)).trans B3.out); replace X0 := hid (bts_below' X0.out hb); replace X1 := hid (bts_below' X1.out hb); replace BW := hid (below_trans BW.out hb BW.out.size); replace BZ := hid (below_trans BZ.out hb BZ.out.size); clear hb))
      go_meet
      exact ⟨rfl, BZ.out⟩
    · subst kn3
      go_wp2_with (first | (refine wpList_load_rowg rfl 30 _ rfl (w1.heap.size) rfl 30 (bcells B) (0, 0) _ BB.out Try.underlying30 rfl (size_blind' _) ?_) | (refine wpList_load_rowg rfl 48 _ rfl (w5.heap.size) rfl 48 (f32s F) (0, 0) _ B1.out Try.underlying48 rfl SF.out ?_) | (refine wpList_load_rowg rfl 48 _ rfl (w6.heap.size) rfl 48 (f32s F) (0, 0) _ B2.out Try.underlying48 rfl SF.out ?_) | (refine wpList_load_rowg rfl 48 _ rfl (w9.heap.size) rfl 48 (f32s F) (0, 0) _ B3.out Try.underlying48 rfl SF.out ?_) | (go_at_call 28; refine (AL.out.sSpec _).mono ?_; rintro e we ⟨rfl, hb⟩; replace BB := hid ((hb.block _ (block_lt BB.out)).trans BB.out); replace B1 := hid ((hb.block _ (block_lt B1.out)).trans B1.out); replace B2 := hid ((hb.block _ (block_lt B2.out)).trans B2.out); replace B3 := hid ((hb.block _ (block_lt B3.out)).trans B3.out); replace X0 := hid (bts_below' X0.out hb); replace X1 := hid (bts_below' X1.out hb); replace BW := hid (below_trans BW.out hb BW.out.size); replace BZ := hid (below_trans BZ.out hb BZ.out.size); clear hb) | (go_at_call 29; refine (AL.out.sImpl _).mono ?_; rintro e we ⟨rfl, hb⟩; replace BB := hid ((hb.block _ (block_lt BB.out)).trans BB.out); replace B1 := hid ((hb.block _ (block_lt B1.out)).trans B1.out); replace B2 := hid ((hb.block _ (block_lt B2.out)).trans B2.out); replace B3 := hid ((hb.block _ (block_lt B3.out)).trans B3.out); replace X0 := hid (bts_below' X0.out hb); replace X1 := hid (bts_below' X1.out hb); replace BW := hid (below_trans BW.out hb BW.out.size); replace BZ := hid (below_trans BZ.out hb BZ.out.size); clear hb))
      go_meet
      exact ⟨rfl, BZ.out⟩
  case rest =>
    obtain ⟨rfl, hb⟩ := hcut
    replace BB := hid ((hb.block _ (block_lt BB.out)).trans BB.out)
    replace B1 := hid ((hb.block _ (block_lt B1.out)).trans B1.out)
    replace B2 := hid ((hb.block _ (block_lt B2.out)).trans B2.out)
    replace B3 := hid ((hb.block _ (block_lt B3.out)).trans B3.out)
    replace X0 := hid (bts_below' X0.out hb)
    replace X1 := hid (bts_below' X1.out hb)
    replace BW := hid (below_trans BW.out hb BW.out.size)
    clear hb kn2
    rename_i K1 h1 K0 h0
    have H1 := hid h1
    clear h1
    refine h0 _ _ ?_
    go_wp2
    exact H1.out _ _ (tail WF.out BK.out OB.out HN0.out HN1.out AL.out BB.out B2.out X0.out X1.out BW.out)

set_option maxRecDepth 100000 in
theorem lifted (os : Os) (started : os.Started) (H : Type) (enc : TypeId × Value → H) :
    ReturnsInHanded {} Try.checked os 4 .any (Rows.fnBrokenSpec.pre6 enc Try.prog Try.f4 Rows.fnBrokenRow.domain false) (Rows.fnBrokenSpec.post enc Try.prog Try.f4 false true false false) := by
  refine returnsInHanded_of_change (C := Try.checked) own started (by kernel_rfl) Try.func4
    (ChangeSpec.witness6 (enc := enc) (C := Try.checked) false ⟨#[], #[.slice none 0 0, .slice none 0 0], []⟩ 8 (by kernel_rfl) (by kernel_rfl) (by kernel_rfl) (by kernel_rfl)) ?_
  intro W base args ds gs before hval0 hW hcnd _
  have hval : ∀ (j : Nat) t v, Try.f4.params[j]? = some t → args[j]? = some v → Value.okWide Try.prog W .any base t v := hval0
  have hW' := hW
  obtain ⟨p, q, hA0, hV, rfl, hfz, hnd⟩ := hW
  have hA : DataW.TrodAll enc Try.prog W 0 (fun _ => true) true Try.f4.params.toList args.toList ds p := hA0
  rw [Try.params4] at hA hval
  obtain ⟨v0, vs0, d0, ds0, p0, q0, hargs, rfl, rfl, h0, r0⟩ := trodAll_cons hA
  obtain ⟨v1, vs1, d1, ds1, p1, q1, rfl, rfl, rfl, h1, r1⟩ := trodAll_cons r0
  obtain ⟨rfl, rfl, rfl⟩ := trodAll_nil r1
  obtain rfl : args = #[v0, v1] := by cases args; simp_all
  obtain ⟨rfl, rfl⟩ := trodVars_none hV
  have k0 := h0
  have lt0 : ∀ x ∈ p0, x.block < W.heap.size := by obtain ⟨m, hm⟩ := k0; exact DataW.trod_lt m _ _ _ hm
  have k1 := h1
  have lt1 : ∀ x ∈ p1, x.block < W.heap.size := by obtain ⟨m, hm⟩ := k1; exact DataW.trod_lt m _ _ _ hm
  obtain ⟨a0, n0, c0, rfl, m0, x0⟩ := open_byts Try.underlying22 (by kernel_rfl) (by kernel_rfl) (hval 0 22 v0 rfl rfl) h0
  obtain ⟨a1, n1, c1, rfl, m1, x1⟩ := open_byts Try.underlying22 (by kernel_rfl) (by kernel_rfl) (hval 1 22 v1 rfl rfl) h1
  clear hA0 hval0
  refine (walk a0 n0 c0 a1 n1 c1 W m0 x0 m1 x1).mono fun e W' ⟨he, bel⟩ => ?_
  subst he
  exact ⟨_, rfl, _, _, _, [], _, [], hW', trodAll_mk1 (shut_bool Try.underlying4 _), (trodAll_cons_mk (Below.trod laidOut (by kernel_rfl) (of_decide_eq_true (by kernel_rfl)) k0 bel lt0) (trodAll_cons_mk (Below.trod laidOut (by kernel_rfl) (of_decide_eq_true (by kernel_rfl)) k1 bel lt1) trodAll_mk0)), rfl, bel.frame _, fun h => by cases h⟩

theorem proved : Rows.FnBrokenSaid :=
  OpenClaim.holds_of_wide 4 Try.f4 rfl rfl rfl rfl rfl rfl rfl ⟨rfl, rfl, rfl, rfl, rfl⟩ rfl rfl rfl rfl rfl (by kernel_rfl) Try.func4 (by kernel_rfl)
    (of_decide_eq_true (by kernel_rfl)) (by unfold Func.isWrapper; first | (rw [if_pos (by decide +kernel)]; kernel_rfl) | (rw [if_neg (by decide +kernel)]; exact ⟨rfl, rfl⟩))
    (fun os started H enc _ => lifted os started H enc)
#print axioms proved
end Go.Proofs.Ytboddpifepegcaa.lawBroken
