import Derived.Test.YtfdimggmljkkbaaGreatDoorP16
import Derived.ArgAppend
import Derived.Defers
import Derived.Recover
namespace Go.Proofs.YtfdimggmljkkbaaGreatDoor
section

end
section
open Go.RowKit Go.Shelf
attribute [local go_sem] Oper.semAt_some
end
section

end
section

end
section

end
section

end
section

end
end Go.Proofs.YtfdimggmljkkbaaGreatDoor
