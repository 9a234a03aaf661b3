/-
  The compiled functions.
-/
import Derived.Test.YtfpmflgjbpnkjaaGreatDoorAb4dCa
import Derived.Test.YtfpmflgjbpnkjaaGreatDoorAb4dCb
import Derived.Test.YtfpmflgjbpnkjaaGreatDoorAb4dCc
import Derived.Test.YtfpmflgjbpnkjaaGreatDoorAb4d
