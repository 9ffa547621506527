/- The contracts that are proved by hand. -/
import Derived.Test.YtceidmhniofapaaPAllx0
import Derived.Test.YtceidmhniofapaaTOrder
import Derived.Test.YtceidmhniofapaaMTCounts
import Derived.Test.YtceidmhniofapaaMTFew
