/- More contracts of the laws' words. -/
import Derived.Test.YtckcffjnffcjcaaTos
namespace Go.Proofs.Ytckcffjnffcjcaa
end Go.Proofs.Ytckcffjnffcjcaa
