/- The document's printed texts, gathered. -/
import Derived.Test.YtiaiopdiooobiaaMyAllDocA
import Derived.Test.YtiaiopdiooobiaaMyAllDocA
import Derived.Test.YtiaiopdiooobiaaMyAllDocA
import Derived.Test.YtiaiopdiooobiaaMyAllDocB
import Derived.Test.YtiaiopdiooobiaaMyAllDocB
import Derived.Test.YtiaiopdiooobiaaPMulx1
