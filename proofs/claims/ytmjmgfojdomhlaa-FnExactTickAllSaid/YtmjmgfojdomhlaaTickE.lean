/- A tick, both sides: all ways. -/
import Derived.Test.YtmjmgfojdomhlaaTickA
import Derived.Test.YtmjmgfojdomhlaaTickB
import Derived.Test.YtmjmgfojdomhlaaTickC
import Derived.Test.YtmjmgfojdomhlaaTickD
namespace Go.Proofs.Ytmjmgfojdomhlaa
set_option maxRecDepth 20000
open Go.RowKit
theorem c_tick (C : Ctl) (hC : OkC C) (B : Bld) (hB : OkB B) (s : Sta) (hs : OkS s) (t : Tck) (ht : OkT t) (c : Nat) (w : World) (hA : CtlAt w c C) :
    Calls Try.prog 146 #[.pointer (some ⟨c, 0, none⟩), .agg (bcells B), .agg (stcells s), .agg (tcells t)] w fun e w' => e = .returned (.tuple #[.agg (stcells (nextW C B s t)), .float .f32 (inW C B s t), .bool (upW C s t)]) ∧ Below w.heap.size w w' := by
  have q1 := hs.so
  have q2 := hs.wa
  have q3 := hs.ti
  cases hg : fGt t.gu C.wi
  case true => exact c_tick_g C hC B hB s hs t ht c w hA hg
  case false =>
    by_cases h1 : 1 < s.so
    · exact c_tick_d C hC B hB s hs t ht c w hA hg h1
    · by_cases h0 : s.so = 1
      · skip
        by_cases h2 : 0 < s.wa
        · exact c_tick_aw C hC B hB s hs t ht c w hA hg h0 h2
        · have h2 : s.wa = 0 := by omega
          cases h3 : fGt (lightW B s t) C.hi
          case true =>
            by_cases h4 : s.ti + C.st ≤ 64
            · exact c_tick_ah1 C hC B hB s hs t ht c w hA hg h0 h2 h3 h4
            · by_cases h5 : s.ti = 64
              · exact c_tick_ah2 C hC B hB s hs t ht c w hA hg h0 h2 h3 h5
              · exact c_tick_ah3 C hC B hB s hs t ht c w hA hg h0 h2 h3 (by omega) (by omega)
          case false =>
            cases h4 : fLt (lightW B s t) C.lo
            case true =>
              by_cases h5 : -64 ≤ s.ti - C.st
              · exact c_tick_al1 C hC B hB s hs t ht c w hA hg h0 h2 h3 h4 h5
              · by_cases h6 : s.ti = -64
                · exact c_tick_al2 C hC B hB s hs t ht c w hA hg h0 h2 h3 h4 h6
                · exact c_tick_al3 C hC B hB s hs t ht c w hA hg h0 h2 h3 h4 (by omega) (by omega)
            case false => exact c_tick_an C hC B hB s hs t ht c w hA hg h0 h2 h3 h4
      · have h0 : s.so = 0 := by omega
        by_cases h2 : 0 < s.wa
        · exact c_tick_bw C hC B hB s hs t ht c w hA hg h0 h2
        · have h2 : s.wa = 0 := by omega
          cases h3 : fGt (lightW B s t) C.hi
          case true =>
            by_cases h4 : s.ti + C.st ≤ 64
            · exact c_tick_bh1 C hC B hB s hs t ht c w hA hg h0 h2 h3 h4
            · by_cases h5 : s.ti = 64
              · exact c_tick_bh2 C hC B hB s hs t ht c w hA hg h0 h2 h3 h5
              · exact c_tick_bh3 C hC B hB s hs t ht c w hA hg h0 h2 h3 (by omega) (by omega)
          case false =>
            cases h4 : fLt (lightW B s t) C.lo
            case true =>
              by_cases h5 : -64 ≤ s.ti - C.st
              · exact c_tick_bl1 C hC B hB s hs t ht c w hA hg h0 h2 h3 h4 h5
              · by_cases h6 : s.ti = -64
                · exact c_tick_bl2 C hC B hB s hs t ht c w hA hg h0 h2 h3 h4 h6
                · exact c_tick_bl3 C hC B hB s hs t ht c w hA hg h0 h2 h3 h4 (by omega) (by omega)
            case false => exact c_tick_bn C hC B hB s hs t ht c w hA hg h0 h2 h3 h4
theorem c_l05Once (C : Ctl) (hC : OkC C) (B : Bld) (hB : OkB B) (s : Sta) (hs : OkS s) (t : Tck) (ht : OkT t) (c b o : Nat) (w : World) (hA : CtlAt w c C) (hT : TckAt w b o t) :
    Calls Try.prog 67 #[.pointer (some ⟨c, 0, none⟩), .agg (bcells B), .agg (stcells s), .pointer (some ⟨b, o, none⟩)] w fun e w' => e = .returned (.tuple #[.agg (stcells (nextW C B s t)), .float .f32 (inW C B s t)]) ∧ Below w.heap.size w w' := by
  have q1 := hs.so
  have q2 := hs.wa
  have q3 := hs.ti
  cases hg : fGt t.gu C.wi
  case true => exact c_once_g C hC B hB s hs t ht c b o w hA hT hg
  case false =>
    by_cases h1 : 1 < s.so
    · exact c_once_d C hC B hB s hs t ht c b o w hA hT hg h1
    · by_cases h0 : s.so = 1
      · skip
        by_cases h2 : 0 < s.wa
        · exact c_once_aw C hC B hB s hs t ht c b o w hA hT hg h0 h2
        · have h2 : s.wa = 0 := by omega
          cases h3 : fGt (lightW B s t) C.hi
          case true =>
            by_cases h4 : s.ti + C.st ≤ 64
            · exact c_once_ah1 C hC B hB s hs t ht c b o w hA hT hg h0 h2 h3 h4
            · by_cases h5 : s.ti = 64
              · exact c_once_ah2 C hC B hB s hs t ht c b o w hA hT hg h0 h2 h3 h5
              · exact c_once_ah3 C hC B hB s hs t ht c b o w hA hT hg h0 h2 h3 (by omega) (by omega)
          case false =>
            cases h4 : fLt (lightW B s t) C.lo
            case true =>
              by_cases h5 : -64 ≤ s.ti - C.st
              · exact c_once_al1 C hC B hB s hs t ht c b o w hA hT hg h0 h2 h3 h4 h5
              · by_cases h6 : s.ti = -64
                · exact c_once_al2 C hC B hB s hs t ht c b o w hA hT hg h0 h2 h3 h4 h6
                · exact c_once_al3 C hC B hB s hs t ht c b o w hA hT hg h0 h2 h3 h4 (by omega) (by omega)
            case false => exact c_once_an C hC B hB s hs t ht c b o w hA hT hg h0 h2 h3 h4
      · have h0 : s.so = 0 := by omega
        by_cases h2 : 0 < s.wa
        · exact c_once_bw C hC B hB s hs t ht c b o w hA hT hg h0 h2
        · have h2 : s.wa = 0 := by omega
          cases h3 : fGt (lightW B s t) C.hi
          case true =>
            by_cases h4 : s.ti + C.st ≤ 64
            · exact c_once_bh1 C hC B hB s hs t ht c b o w hA hT hg h0 h2 h3 h4
            · by_cases h5 : s.ti = 64
              · exact c_once_bh2 C hC B hB s hs t ht c b o w hA hT hg h0 h2 h3 h5
              · exact c_once_bh3 C hC B hB s hs t ht c b o w hA hT hg h0 h2 h3 (by omega) (by omega)
          case false =>
            cases h4 : fLt (lightW B s t) C.lo
            case true =>
              by_cases h5 : -64 ≤ s.ti - C.st
              · exact c_once_bl1 C hC B hB s hs t ht c b o w hA hT hg h0 h2 h3 h4 h5
              · by_cases h6 : s.ti = -64
                · exact c_once_bl2 C hC B hB s hs t ht c b o w hA hT hg h0 h2 h3 h4 h6
                · exact c_once_bl3 C hC B hB s hs t ht c b o w hA hT hg h0 h2 h3 h4 (by omega) (by omega)
            case false => exact c_once_bn C hC B hB s hs t ht c b o w hA hT hg h0 h2 h3 h4
end Go.Proofs.Ytmjmgfojdomhlaa
