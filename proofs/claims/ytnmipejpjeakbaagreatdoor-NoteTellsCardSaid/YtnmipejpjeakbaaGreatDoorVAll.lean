/- All lemmas of the pack V. -/
import Derived.Test.YtnmipejpjeakbaaGreatDoorVReg
import Derived.Test.YtnmipejpjeakbaaGreatDoorVReg9
