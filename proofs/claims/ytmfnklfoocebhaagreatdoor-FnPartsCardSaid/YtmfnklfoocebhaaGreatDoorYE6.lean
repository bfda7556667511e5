/- Rows of closed calls on the way to laws.alive, part 6. -/
import Derived.Test.YtmfnklfoocebhaaGreatDoorYE1
import Derived.Test.YtmfnklfoocebhaaGreatDoorYE2
import Derived.Test.YtmfnklfoocebhaaGreatDoorYE3
import Derived.Test.YtmfnklfoocebhaaGreatDoorYE4
import Derived.Test.YtmfnklfoocebhaaGreatDoorYE5
namespace Go.Proofs.YtmfnklfoocebhaaGreatDoor.Ev
open Go Go.Pm Go.Proofs Go.Proofs.YtmfnklfoocebhaaGreatDoor
set_option linter.unusedVariables false
set_option linter.unusedSimpArgs false
set_option maxRecDepth 1000000
/-- impl.isKnownMap -/
abbrev a118 : Row := (95, [.ag [i (5), i (0), .pv false (E), .pv false (.sl [[B [105, 100]], [B [122, 111, 110, 101]]]), .pv false (.sl [[I 2, I 9, E, E, E], [I 2, I 8, E, E, E]])]], [], (.pv false (.sc (.bool true)), []))
theorem r118 : RowOk a118 := row_ok (l := [a47, a57, a99]) (rcons r47 (rcons r57 (rcons r99 rnil))) 100000 a118 (by decide +kernel)
/-- (impl.History).states -/
abbrev a119 : Row := (39, [.ag [i (0), .pv false (.sc (.bool false)), .pv false (E), i (0), .pv false (E), .pv true (.sl [[I 0, E, I 0, I 0, I 0, E, E, E, E], [I 1, B [100, 98], I 1, I 0, I 0, E, E, E, E], [I 2, B [100, 98], I 0, I 5, I 0, E, .sl [[B [105, 100]], [B [115, 105, 122, 101]]], .sl [[I 2, I 7, E, E, E], [I 2, I 2, E, E, E]], E], [I 1, B [119, 101, 98], I 1, I 0, I 0, E, E, E, E], [I 2, B [119, 101, 98], I 0, I 5, I 0, E, .sl [[B [105, 100]], [B [122, 111, 110, 101]]], .sl [[I 2, I 9, E, E, E], [I 2, I 8, E, E, E]], .sl [[B [100, 98]]]], [I 5, E, I 0, I 0, I 0, E, E, E, E]]), i (6)]], [], (.tu [.pv false (.sl [[I 0, .sc (.bool false), E, I 0, E], [I 1, .sc (.bool true), E, I 0, E], [I 2, .sc (.bool true), B [100, 98], I 1, E], [I 3, .sc (.bool true), E, I 0, .sl [[B [100, 98], I 5, I 0, E, .sl [[B [105, 100]], [B [115, 105, 122, 101]]], .sl [[I 2, I 7, E, E, E], [I 2, I 2, E, E, E]], E, .sc (.bool false), I 3]]], [I 4, .sc (.bool true), B [119, 101, 98], I 1, .sl [[B [100, 98], I 5, I 0, E, .sl [[B [105, 100]], [B [115, 105, 122, 101]]], .sl [[I 2, I 7, E, E, E], [I 2, I 2, E, E, E]], E, .sc (.bool false), I 3]]], [I 5, .sc (.bool true), E, I 0, .sl [[B [100, 98], I 5, I 0, E, .sl [[B [105, 100]], [B [115, 105, 122, 101]]], .sl [[I 2, I 7, E, E, E], [I 2, I 2, E, E, E]], E, .sc (.bool false), I 3], [B [119, 101, 98], I 5, I 0, E, .sl [[B [105, 100]], [B [122, 111, 110, 101]]], .sl [[I 2, I 9, E, E, E], [I 2, I 8, E, E, E]], .sl [[B [100, 98]]], .sc (.bool false), I 5]]], [I 6, .sc (.bool false), E, I 0, .sl [[B [100, 98], I 5, I 0, E, .sl [[B [105, 100]], [B [115, 105, 122, 101]]], .sl [[I 2, I 7, E, E, E], [I 2, I 2, E, E, E]], E, .sc (.bool false), I 3], [B [119, 101, 98], I 5, I 0, E, .sl [[B [105, 100]], [B [122, 111, 110, 101]]], .sl [[I 2, I 9, E, E, E], [I 2, I 8, E, E, E]], .sl [[B [100, 98]]], .sc (.bool false), I 5]]]]), .pv false (.sc (.bool true))], []))
theorem r119 : RowOk a119 := row_ok (l := [a34, a35, a115, a89, a116, a91, a92, a117, a82, a96, a45, a103, a102, a104, a118, a101, a112, a106, a113]) (rcons r34 (rcons r35 (rcons r115 (rcons r89 (rcons r116 (rcons r91 (rcons r92 (rcons r117 (rcons r82 (rcons r96 (rcons r45 (rcons r103 (rcons r102 (rcons r104 (rcons r118 (rcons r101 (rcons r112 (rcons r106 (rcons r113 rnil))))))))))))))))))) 100000 a119 (by decide +kernel)
theorem alive_row : RowOk (6, [], [], (.pv false (.sc (.bool true)), [])) := row_ok (l := [a19, a23, a29, a30, a32, a33, a114, a119]) (rcons r19 (rcons r23 (rcons r29 (rcons r30 (rcons r32 (rcons r33 (rcons r114 (rcons r119 rnil)))))))) 100000 _ (by decide +kernel)
end Go.Proofs.YtmfnklfoocebhaaGreatDoor.Ev
