/- Clients: a contract extended: both sides together. -/
import Derived.Test.YtbfpadeoalcjeabClO
import Derived.Test.YtbfpadeoalcjeabClP
