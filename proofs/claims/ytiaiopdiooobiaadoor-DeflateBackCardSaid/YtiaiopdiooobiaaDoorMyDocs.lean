/- The printed texts, gathered. -/
import Derived.Test.YtiaiopdiooobiaaDoorMyDocUn
import Derived.Test.YtiaiopdiooobiaaDoorPMulx1
