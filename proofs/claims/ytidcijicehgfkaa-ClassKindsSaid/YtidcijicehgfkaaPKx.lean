-- Printed by this session's own program (wip/tools/hybrid.sh) over its own contracts
import Derived.Test.YtidcijicehgfkaaPKx0
import Derived.Test.YtidcijicehgfkaaPKx1
import Derived.Test.YtidcijicehgfkaaPKx2
import Derived.Test.YtidcijicehgfkaaPKx3
import Derived.Test.YtidcijicehgfkaaPKx4
import Derived.Test.YtidcijicehgfkaaPKx5
import Derived.Test.YtidcijicehgfkaaPKx6
import Derived.Test.YtidcijicehgfkaaPKx7
import Derived.Test.YtidcijicehgfkaaPKx8
import Derived.Test.YtidcijicehgfkaaPKx9
namespace Go.Proofs.Ytidcijicehgfkaa.PK
open Go.RowKit Go.Proofs.YtidcijicehgfkaaW.PrintWords Go.Proofs.YtidcijicehgfkaaW.PrintLast Go.Proofs.YtidcijicehgfkaaW.PrintMore
attribute [local go_sem] max2_int min2_int max_two min_two max_three min_three max_four min_four   -- for this text's walks alone
set_option linter.unusedVariables false
set_option linter.unusedSimpArgs false

end Go.Proofs.Ytidcijicehgfkaa.PK
