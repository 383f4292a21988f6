/- The clients that owe, on both sides. -/
import Derived.Test.YtnlghcpidlpfkaaDbI
import Derived.Test.YtnlghcpidlpfkaaDbS
