/-
  Arguments, opened: a slice of whole numbers. No condition but that the memory can be read.
-/
import Derived.Test.YtappljijljjkiaaDoorZfLib
import Derived.ProofKit
import Derived.LaidMore
import Derived.OpenShut
import Derived.Stop.Joined
import Derived.Deep.Slices
