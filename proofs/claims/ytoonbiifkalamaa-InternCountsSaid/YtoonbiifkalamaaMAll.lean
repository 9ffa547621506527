/- The contracts that are proved by hand. -/
import Derived.Test.YtoonbiifkalamaaPAllx0
import Derived.Test.YtoonbiifkalamaaPAllx1
import Derived.Test.YtoonbiifkalamaaMEnds
import Derived.Test.YtoonbiifkalamaaMOnce
import Derived.Test.YtoonbiifkalamaaMCounts
import Derived.Test.YtoonbiifkalamaaMNumbers
