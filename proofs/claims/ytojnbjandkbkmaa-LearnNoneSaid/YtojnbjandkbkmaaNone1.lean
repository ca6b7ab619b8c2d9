/- Contracts and readings for the statement LearnNone, together. -/
import Derived.Test.YtojnbjandkbkmaaNone0
import Derived.Test.YtojnbjandkbkmaaTop
