/- Contracts of Go's library at this program, as the kit's shelf lays them: chosen and written down by a program of this session (wip/shelf.py). -/
import Derived.Shelf.Strings.Builder1
import Derived.Shelf.Strings.Builder2
import Derived.Shelf.Strings.OnBuilder
import Derived.Shelf.Small.Strs
import Derived.Shelf.Strings.BuilderF
import Derived.Shelf.Strings.BuilderK
import Derived.Shelf.Strings.Builder2Cap
import Derived.Shelf.Strings.Search1
import Derived.Shelf.Strings.BuilderCap
import Derived.Test.YtnccklajpmpfdaaProg
namespace Go.Proofs
open Go.Shelf

end Go.Proofs
