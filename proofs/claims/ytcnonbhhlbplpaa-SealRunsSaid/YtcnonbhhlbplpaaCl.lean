/- slices.Clone of bytes, beside the wire's writer. -/
import Derived.Test.YtcnonbhhlbplpaaW1
import Derived.Test.YtcnonbhhlbplpaaWp
import Derived.Test.YtcnonbhhlbplpaaCl0
