/-
  The compiled functions.
-/
import Derived.Test.YtfpmflgjbpnkjaaAb41Ca
import Derived.Test.YtfpmflgjbpnkjaaAb41Cb
import Derived.Test.YtfpmflgjbpnkjaaAb41Cc
