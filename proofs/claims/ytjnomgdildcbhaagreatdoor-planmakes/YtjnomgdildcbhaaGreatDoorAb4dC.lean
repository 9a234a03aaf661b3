/-
  The compiled functions.
-/
import Derived.Test.YtjnomgdildcbhaaGreatDoorAb4dCa
import Derived.Test.YtjnomgdildcbhaaGreatDoorAb4dCb
import Derived.Test.YtjnomgdildcbhaaGreatDoorAb4dCc
import Derived.Test.YtjnomgdildcbhaaGreatDoorAb4dCd
set_option linter.all false
