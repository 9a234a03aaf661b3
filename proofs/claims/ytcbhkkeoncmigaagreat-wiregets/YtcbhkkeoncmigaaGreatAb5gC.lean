/-
  The compiled functions.
-/
import Derived.Test.YtcbhkkeoncmigaaGreatAb5gCa
import Derived.Test.YtcbhkkeoncmigaaGreatAb5gCb
