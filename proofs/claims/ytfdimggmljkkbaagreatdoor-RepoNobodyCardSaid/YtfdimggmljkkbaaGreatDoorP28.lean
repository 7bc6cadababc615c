import Derived.Test.YtfdimggmljkkbaaGreatDoorP27
namespace Go.Proofs.YtfdimggmljkkbaaGreatDoor
section

end
section

end
section

end
section

end
end Go.Proofs.YtfdimggmljkkbaaGreatDoor
