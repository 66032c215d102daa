/- The examples of the chapter hold: a closed statement, no condition. -/
import Derived.Test.YthmdpcdcbfndiaaPGeomKnownx3
import Derived.Test.YthmdpcdcbfndiaaPg
import Derived.OpenShut
namespace Go.Proofs.Ythmdpcdcbfndiaa.BrGeomKnown
open Go.RowKit Go.Proofs.Ythmdpcdcbfndiaa.PGeomKnown Go.Proofs.YthmdpcdcbfndiaaW.PrintWords Go.Proofs.YthmdpcdcbfndiaaW.PrintLast Go.Proofs.YthmdpcdcbfndiaaW.PrintMore Go.Proofs.Ythmdpcdcbfndiaa.Pg

end Go.Proofs.Ythmdpcdcbfndiaa.BrGeomKnown
namespace Go.Proofs.Ythmdpcdcbfndiaa.Pure
open Go.RowKit Go.Proofs.Ythmdpcdcbfndiaa.PGeomKnown Go.Proofs.Ythmdpcdcbfndiaa.BrGeomKnown Go.Proofs.Ythmdpcdcbfndiaa.Pg
theorem GeomKnown : casematelaw14_GeomKnown.Pure := ⟨40, by decide +kernel⟩
end Go.Proofs.Ythmdpcdcbfndiaa.Pure
