/-
  When a list of points is a light curve.
-/
import Derived.Test.YtdcldiadjdpaeaaMM
import Derived.Test.YtdcldiadjdpaeaaTimes
import Derived.Deep.CutRange
import Derived.Deep.Light
namespace Go.Proofs.Ytdcldiadjdpaeaa
open Go.RowKit
set_option maxRecDepth 100000

end Go.Proofs.Ytdcldiadjdpaeaa
