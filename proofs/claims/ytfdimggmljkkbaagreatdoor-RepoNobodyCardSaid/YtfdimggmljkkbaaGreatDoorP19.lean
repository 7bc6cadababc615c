import Derived.Test.YtfdimggmljkkbaaGreatDoorP18
import Derived.Deep.Slices
import Derived.Deep.Fields
namespace Go.Proofs.YtfdimggmljkkbaaGreatDoor
section
open Go.RowKit Go.Shelf
attribute [local go_sem] Oper.semAt_some
end
section

end
section

end
section

end
section

end
section

end
section

end
section

end
section

end
end Go.Proofs.YtfdimggmljkkbaaGreatDoor
