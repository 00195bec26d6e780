/- What a walk of slices.DeleteFunc at structs needs: the built-in clear at structs, the kept list's steps, the slice cut behind it; over any program. -/
import Derived.Test.YtgebinfbbopnlaaDoorSort
import Derived.Test.YtgebinfbbopnlaaDoorClear
import Derived.Test.YtgebinfbbopnlaaDoorKept
import Derived.Lib.SliceRun
namespace Go.Proofs.YtgebinfbbopnlaaDoor
open Go.RowKit Go.Lib Go.Sort Go.Shelf
set_option linter.unusedSectionVars false
set_option linter.unusedVariables false
set_option linter.unusedSimpArgs false
end Go.Proofs.YtgebinfbbopnlaaDoor
