-- PRINTED BY print.sh 35421559b90ae4d0a3588c463048766b98c2df88dd9212a6774a882060cdf62d: not written by this session
import Derived.Test.YtfcdohaimdodgaaDoorPFragx0
import Derived.Test.YtfcdohaimdodgaaDoorPFragx1
import Derived.Test.YtfcdohaimdodgaaDoorPFragx2
import Derived.Test.YtfcdohaimdodgaaDoorPFragx3
import Derived.Test.YtfcdohaimdodgaaDoorPFragx4
import Derived.Test.YtfcdohaimdodgaaDoorPFragx5
import Derived.Test.YtfcdohaimdodgaaDoorPFragx6
import Derived.Test.YtfcdohaimdodgaaDoorPFragx7
namespace Go.Proofs.YtfcdohaimdodgaaDoor.PFrag
open Go.RowKit Go.Proofs.YtfcdohaimdodgaaDoorW.PrintWords Go.Proofs.YtfcdohaimdodgaaDoorW.PrintLast Go.Proofs.YtfcdohaimdodgaaDoorW.PrintMore
attribute [local go_sem] max2_int min2_int max_two min_two max_three min_three max_four min_four   -- for this text's walks alone
set_option linter.unusedVariables false
set_option linter.unusedSimpArgs false

end Go.Proofs.YtfcdohaimdodgaaDoor.PFrag
