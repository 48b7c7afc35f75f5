/- The walks of package skip: what a query is (QyW). -/
import Derived.Test.YtdeiehgghhiijaaGreatDoorSpanD
import Derived.Test.YtdeiehgghhiijaaGreatDoorKmpP
import Derived.Test.YtdeiehgghhiijaaGreatDoorQyW
