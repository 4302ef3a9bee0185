-- PRINTED BY print.sh 35421559b90ae4d0a3588c463048766b98c2df88dd9212a6774a882060cdf62d: not written by this session
import Derived.Test.YtjeeakhgjcbhaaaPCreateGluesx0
import Derived.Test.YtjeeakhgjcbhaaaPCreateGluesx1
import Derived.Test.YtjeeakhgjcbhaaaPCreateGluesx2
namespace Go.Proofs.Ytjeeakhgjcbhaaa.PCreateGlues
open Go.RowKit Go.Proofs.YtjeeakhgjcbhaaaW.PrintWords Go.Proofs.YtjeeakhgjcbhaaaW.PrintLast Go.Proofs.YtjeeakhgjcbhaaaW.PrintMore
attribute [local go_sem] max2_int min2_int max_two min_two max_three min_three max_four min_four   -- for this text's walks alone
set_option linter.unusedVariables false
set_option linter.unusedSimpArgs false

end Go.Proofs.Ytjeeakhgjcbhaaa.PCreateGlues
