/- The walks of package skip: what a query is (QyW). -/
import Derived.Test.YtdeiehgghhiijaaDoorSpanD
import Derived.Test.YtdeiehgghhiijaaDoorKmpP
import Derived.Test.YtdeiehgghhiijaaDoorQyW
