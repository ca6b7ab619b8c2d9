/- Contracts and readings for the statement VxlanFlows, together. -/
import Derived.Test.YtjdppdoakbojcaaFlows0
import Derived.Test.YtjdppdoakbojcaaTop
