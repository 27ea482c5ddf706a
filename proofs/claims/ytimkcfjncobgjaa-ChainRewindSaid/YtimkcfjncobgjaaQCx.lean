-- Printed by a program of this session (wip/tools): not by hand, and not by the kit's print.sh
import Derived.Test.YtimkcfjncobgjaaQCx0
import Derived.Test.YtimkcfjncobgjaaQCx1
import Derived.Test.YtimkcfjncobgjaaQCx2
import Derived.Test.YtimkcfjncobgjaaQCx3
import Derived.Test.YtimkcfjncobgjaaQCx4
import Derived.Test.YtimkcfjncobgjaaQCx5
import Derived.Test.YtimkcfjncobgjaaQCx6
import Derived.Test.YtimkcfjncobgjaaQCx7
import Derived.Test.YtimkcfjncobgjaaQCx8
import Derived.Test.YtimkcfjncobgjaaQCx9
import Derived.Test.YtimkcfjncobgjaaQCx10
import Derived.Test.YtimkcfjncobgjaaQCx11
namespace Go.Proofs.Ytimkcfjncobgjaa.QC
open Go.RowKit Go.Proofs.YtimkcfjncobgjaaW.PrintWords Go.Proofs.YtimkcfjncobgjaaW.PrintLast Go.Proofs.YtimkcfjncobgjaaW.PrintMore
attribute [local go_sem] max2_int min2_int max_two min_two max_three min_three max_four min_four   -- for this text's walks alone
set_option linter.unusedVariables false
set_option linter.unusedSimpArgs false

end Go.Proofs.Ytimkcfjncobgjaa.QC
