/- The plain statement behind the row of KeyOrder is proved in the text that this one imports. No conditions beyond those in the statement. -/
import Derived.Test.YtikekepiimaccaaKeyOrd
