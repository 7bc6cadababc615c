import Derived.Test.YtfdimggmljkkbaaGreatDoorP09
namespace Go.Proofs.YtfdimggmljkkbaaGreatDoor
section

end
section

end
section

end
section

end
section

end
section

end
end Go.Proofs.YtfdimggmljkkbaaGreatDoor
