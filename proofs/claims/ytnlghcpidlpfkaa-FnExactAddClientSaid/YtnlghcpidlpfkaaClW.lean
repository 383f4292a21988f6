/- Clients: a client added: both sides together. -/
import Derived.Test.YtnlghcpidlpfkaaBap
import Derived.Test.YtnlghcpidlpfkaaClU
import Derived.Test.YtnlghcpidlpfkaaClV
