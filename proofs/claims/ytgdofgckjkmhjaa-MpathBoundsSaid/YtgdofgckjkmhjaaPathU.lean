import Derived.Test.YtgdofgckjkmhjaaPathR
namespace Go.Proofs.Ytgdofgckjkmhjaa
open Go Go.RowKit
end Go.Proofs.Ytgdofgckjkmhjaa
