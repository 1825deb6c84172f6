/- JournalRewrites: walk and rows together. -/
import Derived.Test.YtlhjbjpcnncndaaJCR
import Derived.Test.YtlhjbjpcnncndaaJRW2
set_option linter.unusedSimpArgs false
set_option linter.unusedVariables false
