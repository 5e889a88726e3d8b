/- The document's printed texts, gathered. -/
import Derived.Test.YthpnncbndnjoaaaDoorPGzipPacksx2
import Derived.Test.YthpnncbndnjoaaaDoorPGzipPacksx3
import Derived.Test.YthpnncbndnjoaaaDoorPGzipPacksx4
import Derived.Test.YthpnncbndnjoaaaDoorPGzipPacksx5
import Derived.Test.YthpnncbndnjoaaaDoorPGzipPacksx6
import Derived.Test.YthpnncbndnjoaaaDoorPMulx1
