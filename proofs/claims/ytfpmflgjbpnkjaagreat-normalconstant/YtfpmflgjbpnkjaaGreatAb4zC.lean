/-
  The compiled functions.
-/
import Derived.Test.YtfpmflgjbpnkjaaGreatAb4zCa
import Derived.Test.YtfpmflgjbpnkjaaGreatAb4zCb
import Derived.Test.YtfpmflgjbpnkjaaGreatAb4zCc
