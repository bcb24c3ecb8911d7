/-
  The law on regions with held loads.
-/
import Derived.Test.YtgdcefdncjmnkaaBase
import Derived.Deep.RegionHeld3
