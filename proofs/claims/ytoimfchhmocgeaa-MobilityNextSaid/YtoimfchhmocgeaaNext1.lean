/- Contracts and readings for the statement MobilityNext, together. -/
import Derived.Test.YtoimfchhmocgeaaNext0
import Derived.Test.YtoimfchhmocgeaaTop
