/-
  Arguments, opened: an input of a run in raw numbers; a slice of whole numbers.
-/
import Derived.Test.YtappljijljjkiaaDoorZfOp0
import Derived.Test.YtappljijljjkiaaDoorZfOpn
import Derived.Test.YtappljijljjkiaaDoorZfStS
import Derived.Test.YtappljijljjkiaaDoorZfFnS
import Derived.Test.YtappljijljjkiaaDoorZfSu3
import Derived.Laws.AppendOwn
import Derived.Deep.Upon
