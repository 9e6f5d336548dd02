/- A region that draws and only reads. -/
import Derived.Test.YtlpokomfljmogaaBase
namespace Go.Proofs.Ytlpokomfljmogaa
theorem region_reads {P : Program} {id : Nat} {Q : Exit → Act → World → Prop} {a : Act} {w : World} {l : List Oper} (hm : P.follows .mixedOrders = true) (hB : Region.lexB .any l.toArray = true)
    (h : wpStill P l.toArray w.drew (fun a' => Q .normal a' w.drew) l a) : (Code.region id l.toArray true).wp P Q a w :=
  wp_region_still_lit hm hB h
end Go.Proofs.Ytlpokomfljmogaa
