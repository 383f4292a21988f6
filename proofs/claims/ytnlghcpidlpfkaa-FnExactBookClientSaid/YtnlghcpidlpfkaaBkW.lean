/- Bookings: one added: both sides together. -/
import Derived.Test.YtnlghcpidlpfkaaBap
import Derived.Test.YtnlghcpidlpfkaaBkX
import Derived.Test.YtnlghcpidlpfkaaBkV
