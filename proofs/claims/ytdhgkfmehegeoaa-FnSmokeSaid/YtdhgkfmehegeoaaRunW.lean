import Derived.Test.YtdhgkfmehegeoaaRun
import Derived.Test.YtdhgkfmehegeoaaRunS
import Derived.Test.YtdhgkfmehegeoaaFlWind
namespace Go.Proofs.Ytdhgkfmehegeoaa
set_option linter.unusedSimpArgs false
set_option linter.unusedVariables false
open Go.RowKit

theorem windsOf {w : World} {a : Option Addr} {n c : Nat} {ws : List WindI} (h : Rd FWind w a n c ws) : Winds w a n c ws :=
  ⟨h.len, h.cap, h.capm, h.nil, h.nroom, h.wf, fun k hk => by
    obtain ⟨b, off, rfl, hl, _⟩ := h.at' k hk
    exact ⟨b, off, rfl, hl, fun i hi => (h.cellWind hi).2⟩⟩

theorem specRunR_any (W H : Int) (a : Option Addr) (n c : Nat) (xs : List Int) (a' : Option Addr) (n' c' : Nat) (ws : List WindI) (w : World) (h : Ints w a n c xs) (h' : Rd FWind w a' n' c' ws) (_hW : I64 W) (_hH : I64 H) :
    Calls Try.prog 10 #[.agg #[.int .i64 W, .int .i64 H, .slice a n c], .slice a' n' c'] w (Grid3Res w (runR W H xs ws).g.W (runR W H xs ws).g.H (runR W H xs ws).g.zs (runR W H xs ws).t (runR W H xs ws).ok) :=
  specRun_any W H a n c xs a' n' c' ws w h (windsOf h')
theorem implRunR_any (W H : Int) (a : Option Addr) (n c : Nat) (xs : List Int) (a' : Option Addr) (n' c' : Nat) (ws : List WindI) (w : World) (h : Ints w a n c xs) (h' : Rd FWind w a' n' c' ws) (_hW : I64 W) (_hH : I64 H) :
    Calls Try.prog 9 #[.agg #[.int .i64 W, .int .i64 H, .slice a n c], .slice a' n' c'] w (Grid3Res w (runR W H xs ws).g.W (runR W H xs ws).g.H (runR W H xs ws).g.zs (runR W H xs ws).t (runR W H xs ws).ok) :=
  implRun_any W H a n c xs a' n' c' ws w h (windsOf h')
end Go.Proofs.Ytdhgkfmehegeoaa
