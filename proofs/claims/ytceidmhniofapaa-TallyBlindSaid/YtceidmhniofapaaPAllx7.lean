-- Made by this project's own program (wip/tools/fp.py) over the kit's print; checked by Lean alone.
import Derived.Test.YtceidmhniofapaaPAllx0
import Derived.Test.YtceidmhniofapaaMAll
namespace Go.Proofs.Ytceidmhniofapaa.PAll
open Go.RowKit Go.Proofs.YtceidmhniofapaaW.PrintWords Go.Proofs.YtceidmhniofapaaW.PrintLast Go.Proofs.YtceidmhniofapaaW.PrintMore
attribute [local go_sem] max2_int min2_int max_two min_two max_three min_three max_four min_four   -- for this text's walks alone
set_option linter.unusedVariables false
set_option linter.unusedSimpArgs false

-- tally_Order: by hand, in Derived.Test.YtceidmhniofapaaMAll
end Go.Proofs.Ytceidmhniofapaa.PAll
