import Derived.Test.YtmfagdbocidfjaaU07
import Derived.Test.YtmfagdbocidfjaaU06
/- More contracts of backstayref01's wide numbers: Turn, Plus, Held, Parts, Times, and Add, Sub, Mul held at the limits. Conditions: the numbers are below 65536 to the 9th (to the 8th for Parts, to the 4th for the factors). -/
namespace Go.Proofs.Ytmfagdbocidfjaa
open Go.RowKit
attribute [local irreducible] wideA dg satZ

end Go.Proofs.Ytmfagdbocidfjaa
