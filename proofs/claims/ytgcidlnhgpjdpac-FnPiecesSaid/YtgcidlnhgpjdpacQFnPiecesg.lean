/- The kinds of the arguments of the law FnPieces: what is read as data at these types is of the kinds that the printed functions take. No conditions. -/
import Derived.Test.YtgcidlnhgpjdpacOpens
import Derived.Test.YtgcidlnhgpjdpacQFnPiecesx0
namespace Go.Proofs.Ytgcidlnhgpjdpac.QFnPieces
open Go.RowKit Go.Proofs.YtgcidlnhgpjdpacW.PrintWords Go.Proofs.Ytgcidlnhgpjdpac.Opens
end Go.Proofs.Ytgcidlnhgpjdpac.QFnPieces
