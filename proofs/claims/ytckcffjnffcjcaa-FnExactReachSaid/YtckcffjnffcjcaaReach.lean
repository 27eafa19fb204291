/- The contracts of both Reaches in one. No conditions. -/
import Derived.Test.YtckcffjnffcjcaaRch1
import Derived.Test.YtckcffjnffcjcaaRch2
