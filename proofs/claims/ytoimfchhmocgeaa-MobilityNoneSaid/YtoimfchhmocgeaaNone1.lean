/- Contracts and readings for the statement MobilityNone, together. -/
import Derived.Test.YtoimfchhmocgeaaNone0
import Derived.Test.YtoimfchhmocgeaaTop
