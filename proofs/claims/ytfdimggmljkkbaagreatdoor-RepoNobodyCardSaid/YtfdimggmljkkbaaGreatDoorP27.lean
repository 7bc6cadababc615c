import Derived.Test.YtfdimggmljkkbaaGreatDoorP19
import Derived.Test.YtfdimggmljkkbaaGreatDoorP26
namespace Go.Proofs.YtfdimggmljkkbaaGreatDoor
section

end
section

end
section

end
section

end
section

end
section

end
section

end
end Go.Proofs.YtfdimggmljkkbaaGreatDoor
