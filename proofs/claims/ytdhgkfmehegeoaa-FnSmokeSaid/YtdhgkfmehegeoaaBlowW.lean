import Derived.Test.YtdhgkfmehegeoaaRun2
import Derived.Test.YtdhgkfmehegeoaaFlWind
import Derived.Deep.DeepCutAuto
namespace Go.Proofs.Ytdhgkfmehegeoaa
set_option linter.unusedSimpArgs false
set_option linter.unusedVariables false
open Go.RowKit

theorem specBlowR_any (W H : Int) (a : Option Addr) (n c : Nat) (xs : List Int) (e s q : Int) (w : World) (h : Ints w a n c xs) (_hW : I64 W) (_hH : I64 H) (_he : I64 e) (_hs : I64 s) (_hq : I64 q) :
    Calls Try.prog 17 #[.agg #[.int .i64 W, .int .i64 H, .slice a n c], .agg #[.int .i64 e, .int .i64 s, .int .i64 q]] w (Grid3Res w (blowR W H xs e s q).g.W (blowR W H xs e s q).g.H (blowR W H xs e s q).g.zs (blowR W H xs e s q).t (blowR W H xs e s q).ok) :=
  specBlow_any W H a n c xs e s q w h 
theorem implBlowR_any (W H : Int) (a : Option Addr) (n c : Nat) (xs : List Int) (e s q : Int) (w : World) (h : Ints w a n c xs) (_hW : I64 W) (_hH : I64 H) (_he : I64 e) (_hs : I64 s) (_hq : I64 q) :
    Calls Try.prog 16 #[.agg #[.int .i64 W, .int .i64 H, .slice a n c], .agg #[.int .i64 e, .int .i64 s, .int .i64 q]] w (Grid3Res w (blowR W H xs e s q).g.W (blowR W H xs e s q).g.H (blowR W H xs e s q).g.zs (blowR W H xs e s q).t (blowR W H xs e s q).ok) :=
  implBlow_any W H a n c xs e s q w h _he _hs _hq
end Go.Proofs.Ytdhgkfmehegeoaa
