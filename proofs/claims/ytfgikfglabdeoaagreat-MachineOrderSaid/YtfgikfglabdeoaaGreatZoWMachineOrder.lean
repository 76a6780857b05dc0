/- What the row rests on: the law, at the model and walked. -/
import Derived.Test.YtfgikfglabdeoaaGreatZo9
set_option maxRecDepth 100000
set_option maxHeartbeats 4000000
set_option linter.all false
