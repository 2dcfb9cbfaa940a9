/- The reference's Next answers as the program's. -/
import Derived.Test.YtfklcfpkbnddfaaRNext2
import Derived.Test.YtfklcfpkbnddfaaRNext3
namespace Go.Proofs.Ytfklcfpkbnddfaa
open Go.RowKit Go.Sort
theorem rnext_any (S : Nat → Prop) (l : List Rq) (v : Value) (t : Tn) (now : Int) (w : World) (h : ReqsAt S w v l) (hg : goodReqs l = true) (hne : l ≠ []) (hst : i64 t.starved) (hn1 : 0 ≤ now) (hn2 : now ≤ 1000000000) :
    Calls Try.prog 26 #[v, tnV t, .int .i64 now] w (Ret (nextV l t now) w) := by
  by_cases q1 : t.gone = 1
  · by_cases q3 : 0 ≤ fromI l t.write t.wh
    · exact rnext_on S l v t now w h hg (.inl q1) q3
    · exact rnext_new2 S l v t now w h hg hne hst hn1 hn2 (by omega) (by simpa using q1)
  · by_cases q2 : t.gone = 2
    · by_cases q3 : 0 ≤ fromI l t.write t.wh
      · exact rnext_on S l v t now w h hg (.inr q2) q3
      · exact rnext_new3 S l v t now w h hg hne hst hn1 hn2 (by omega) (by simpa using q1) (by simpa using q2)
    · exact rnext_new1 S l v t now w h hg hne hst hn1 hn2 (by omega) (by simpa using q1) (by simpa using q2)
end Go.Proofs.Ytfklcfpkbnddfaa
