/- All lemmas of the pack D. -/
import Derived.Test.YtijcbfhlhgjedaaDoorDIter
import Derived.Test.YtijcbfhlhgjedaaDoorDRevR
import Derived.Test.YtijcbfhlhgjedaaDoorDJoinM
import Derived.Test.YtijcbfhlhgjedaaDoorDBound
import Derived.Test.YtijcbfhlhgjedaaDoorDJoin
import Derived.Test.YtijcbfhlhgjedaaDoorDPart
import Derived.Test.YtijcbfhlhgjedaaDoorDBackOk
import Derived.Test.YtijcbfhlhgjedaaDoorDPartM
