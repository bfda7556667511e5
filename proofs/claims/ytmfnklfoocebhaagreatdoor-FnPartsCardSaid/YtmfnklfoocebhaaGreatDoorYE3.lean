/- Rows of closed calls on the way to laws.alive, part 3. -/
import Derived.Test.YtmfnklfoocebhaaGreatDoorYE1
import Derived.Test.YtmfnklfoocebhaaGreatDoorYE2
namespace Go.Proofs.YtmfnklfoocebhaaGreatDoor.Ev
open Go Go.Pm Go.Proofs Go.Proofs.YtmfnklfoocebhaaGreatDoor
set_option linter.unusedVariables false
set_option linter.unusedSimpArgs false
set_option maxRecDepth 1000000
/-- spec.l6expr -/
abbrev a31 : Row := (193, [.ag [i (8), i (0), .pv false (B [105, 100]), .pv false (E), .pv false (.sl [[I 7, I 0, B [100, 98], E, E]])], i (2), i (148)], [], (i (146), []))
theorem r31 : RowOk a31 := row_ok (l := [a20]) (rcons r20 rnil) 100000 a31 (by decide +kernel)
/-- spec.l6item -/
abbrev a32 : Row := (138, [.ag [i (1), .pv false (B [119, 101, 98]), i (0), i (0), i (0), .pv false (E), .pv false (E), .pv false (E), .pv false (.sl [[B [122, 111, 110, 101]]]), .pv false (.sl [[I 16, I 0, E, E, .sl [[I 8, I 0, B [105, 100], E, .sl [[I 7, I 0, B [100, 98], E, E]]], [I 2, I 1, E, E, E]]]])], i (149)], [], (i (145), []))
theorem r32 : RowOk a32 := row_ok (l := [a24, a31]) (rcons r24 (rcons r31 rnil)) 100000 a32 (by decide +kernel)
/-- spec.l6ownConfig -/
abbrev a33 : Row := (79, [.pv true (.sl [[I 1, B [100, 98], I 0, I 0, I 0, E, E, E, .sl [[B [115, 105, 122, 101]]], .sl [[I 2, I 2, E, E, E]]], [I 1, B [119, 101, 98], I 0, I 0, I 0, E, E, E, .sl [[B [122, 111, 110, 101]]], .sl [[I 16, I 0, E, E, .sl [[I 8, I 0, B [105, 100], E, .sl [[I 7, I 0, B [100, 98], E, E]]], [I 2, I 1, E, E, E]]]]]])], [], (.pv false (.sl [[I 1, B [100, 98], I 0, I 0, I 0, E, E, E, .sl [[B [115, 105, 122, 101]]], .sl [[I 2, I 2, E, E, E]]], [I 1, B [119, 101, 98], I 0, I 0, I 0, E, E, E, .sl [[B [122, 111, 110, 101]]], .sl [[I 16, I 0, E, E, .sl [[I 8, I 0, B [105, 100], E, .sl [[I 7, I 0, B [100, 98], E, E]]], [I 2, I 1, E, E, E]]]]]]), []))
theorem r33 : RowOk a33 := row_ok (l := []) rnil 100000 a33 (by decide +kernel)
/-- impl.isState -/
abbrev a34 : Row := (54, [.ag [i (0), .pv false (.sc (.bool false)), .pv false (E), i (0), .pv false (E)]], [], (.pv false (.sc (.bool true)), []))
theorem r34 : RowOk a34 := row_ok (l := []) rnil 100000 a34 (by decide +kernel)
/-- impl.copyState -/
abbrev a35 : Row := (80, [.ag [i (0), .pv false (.sc (.bool false)), .pv false (E), i (0), .pv false (E)]], [], (.ag [i (0), .pv false (.sc (.bool false)), .pv false (E), i (0), .ref 16 0 0], [(16, .row .own 56 9 [])]))
theorem r35 : RowOk a35 := row_ok (l := []) rnil 100000 a35 (by decide +kernel)
/-- impl.isName -/
abbrev a36 : Row := (90, [.pv false (B [100, 98])], [], (.pv false (.sc (.bool true)), []))
theorem r36 : RowOk a36 := row_ok (l := []) rnil 100000 a36 (by decide +kernel)
/-- slices.Index[[]string,string] -/
abbrev a37 : Row := (195, [.pv false (.sl [[.sc (.string ⟨#[110, 117, 108, 108]⟩)], [.sc (.string ⟨#[116, 114, 117, 101]⟩)], [.sc (.string ⟨#[102, 97, 108, 115, 101]⟩)], [.sc (.string ⟨#[105, 110, 100, 101, 120]⟩)], [.sc (.string ⟨#[107, 101, 121]⟩)], [.sc (.string ⟨#[118, 97, 108]⟩)], [.sc (.string ⟨#[108, 111, 99, 97, 108]⟩)], [.sc (.string ⟨#[114, 101, 115]⟩)], [.sc (.string ⟨#[111, 117, 116]⟩)], [.sc (.string ⟨#[99, 111, 117, 110, 116]⟩)], [.sc (.string ⟨#[101, 97, 99, 104]⟩)]]), .pv false (.sc (.string ⟨#[100, 98]⟩))], [], (i (-1), []))
theorem r37 : RowOk a37 := row_ok (l := []) rnil 100000 a37 (by decide +kernel)
/-- impl.isWord -/
abbrev a38 : Row := (85, [.pv false (B [100, 98])], [], (.pv false (.sc (.bool true)), []))
theorem r38 : RowOk a38 := row_ok (l := [a36, a37]) (rcons r36 (rcons r37 rnil)) 100000 a38 (by decide +kernel)
/-- impl.isFormed -/
abbrev a39 : Row := (147, [.ag [i (2), i (2), .pv false (E), .pv false (E), .pv false (E)], i (10)], [], (.pv false (.sc (.bool true)), []))
theorem r39 : RowOk a39 := row_ok (l := []) rnil 100000 a39 (by decide +kernel)
/-- impl.isItem$1 -/
abbrev a40 : Row := (87, [.ag [i (2), i (2), .pv false (E), .pv false (E), .pv false (E)]], [], (.pv false (.sc (.bool false)), []))
theorem r40 : RowOk a40 := row_ok (l := [a39]) (rcons r39 rnil) 100000 a40 (by decide +kernel)
/-- impl.isZeroExpr -/
abbrev a41 : Row := (89, [.ag [i (0), i (0), .pv false (E), .pv false (E), .pv false (E)]], [], (.pv false (.sc (.bool true)), []))
theorem r41 : RowOk a41 := row_ok (l := []) rnil 100000 a41 (by decide +kernel)
/-- impl.isFormed -/
abbrev a42 : Row := (147, [.ag [i (0), i (0), .pv false (E), .pv false (E), .pv false (E)], i (10)], [], (.pv false (.sc (.bool true)), []))
theorem r42 : RowOk a42 := row_ok (l := []) rnil 100000 a42 (by decide +kernel)
/-- impl.isName -/
abbrev a43 : Row := (90, [.pv false (B [115, 105, 122, 101])], [], (.pv false (.sc (.bool true)), []))
theorem r43 : RowOk a43 := row_ok (l := []) rnil 100000 a43 (by decide +kernel)
/-- impl.isItem -/
abbrev a44 : Row := (47, [.ag [i (1), .pv false (B [100, 98]), i (0), i (0), i (0), .pv false (E), .pv false (E), .pv false (E), .pv false (.sl [[B [115, 105, 122, 101]]]), .pv false (.sl [[I 2, I 2, E, E, E]])]], [], (.pv false (.sc (.bool true)), []))
theorem r44 : RowOk a44 := row_ok (l := [a38, a40, a41, a42, a43]) (rcons r38 (rcons r40 (rcons r41 (rcons r42 (rcons r43 rnil))))) 100000 a44 (by decide +kernel)
/-- impl.isName -/
abbrev a45 : Row := (90, [.pv false (B [119, 101, 98])], [], (.pv false (.sc (.bool true)), []))
theorem r45 : RowOk a45 := row_ok (l := []) rnil 100000 a45 (by decide +kernel)
/-- slices.Index[[]string,string] -/
abbrev a46 : Row := (195, [.pv false (.sl [[.sc (.string ⟨#[110, 117, 108, 108]⟩)], [.sc (.string ⟨#[116, 114, 117, 101]⟩)], [.sc (.string ⟨#[102, 97, 108, 115, 101]⟩)], [.sc (.string ⟨#[105, 110, 100, 101, 120]⟩)], [.sc (.string ⟨#[107, 101, 121]⟩)], [.sc (.string ⟨#[118, 97, 108]⟩)], [.sc (.string ⟨#[108, 111, 99, 97, 108]⟩)], [.sc (.string ⟨#[114, 101, 115]⟩)], [.sc (.string ⟨#[111, 117, 116]⟩)], [.sc (.string ⟨#[99, 111, 117, 110, 116]⟩)], [.sc (.string ⟨#[101, 97, 99, 104]⟩)]]), .pv false (.sc (.string ⟨#[119, 101, 98]⟩))], [], (i (-1), []))
theorem r46 : RowOk a46 := row_ok (l := []) rnil 100000 a46 (by decide +kernel)
/-- impl.isName -/
abbrev a47 : Row := (90, [.pv false (B [105, 100])], [], (.pv false (.sc (.bool true)), []))
theorem r47 : RowOk a47 := row_ok (l := []) rnil 100000 a47 (by decide +kernel)
/-- impl.isFormed -/
abbrev a48 : Row := (147, [.ag [i (7), i (0), .pv false (B [100, 98]), .pv false (E), .pv false (E)], i (8)], [], (.pv false (.sc (.bool true)), []))
theorem r48 : RowOk a48 := row_ok (l := [a38]) (rcons r38 rnil) 100000 a48 (by decide +kernel)
/-- slices.ContainsFunc[[]impl.Expr,impl.Expr] -/
abbrev a49 : Row := (86, [.pv false (.sl [[I 7, I 0, B [100, 98], E, E]]), .pv true (.cl 196 [.pt [I 9]])], [], (.pv false (.sc (.bool false)), []))
theorem r49 : RowOk a49 := row_ok (l := [a48]) (rcons r48 rnil) 100000 a49 (by decide +kernel)
/-- impl.isFormed -/
abbrev a50 : Row := (147, [.ag [i (8), i (0), .pv false (B [105, 100]), .pv false (E), .pv false (.sl [[I 7, I 0, B [100, 98], E, E]])], i (9)], [], (.pv false (.sc (.bool true)), []))
theorem r50 : RowOk a50 := row_ok (l := [a47, a49]) (rcons r47 (rcons r49 rnil)) 100000 a50 (by decide +kernel)
/-- impl.isFormed -/
abbrev a51 : Row := (147, [.ag [i (2), i (1), .pv false (E), .pv false (E), .pv false (E)], i (9)], [], (.pv false (.sc (.bool true)), []))
theorem r51 : RowOk a51 := row_ok (l := []) rnil 100000 a51 (by decide +kernel)
/-- slices.IndexFunc[[]impl.Expr,impl.Expr] -/
abbrev a52 : Row := (146, [.pv false (.sl [[I 8, I 0, B [105, 100], E, .sl [[I 7, I 0, B [100, 98], E, E]]], [I 2, I 1, E, E, E]]), .pv true (.cl 196 [.pt [I 10]])], [], (i (-1), []))
theorem r52 : RowOk a52 := row_ok (l := [a50, a51]) (rcons r50 (rcons r51 rnil)) 100000 a52 (by decide +kernel)
/-- impl.isFormed -/
abbrev a53 : Row := (147, [.ag [i (16), i (0), .pv false (E), .pv false (E), .pv false (.sl [[I 8, I 0, B [105, 100], E, .sl [[I 7, I 0, B [100, 98], E, E]]], [I 2, I 1, E, E, E]])], i (10)], [], (.pv false (.sc (.bool true)), []))
theorem r53 : RowOk a53 := row_ok (l := [a52]) (rcons r52 rnil) 100000 a53 (by decide +kernel)
/-- (impl.Expr).parts -/
abbrev a54 : Row := (50, [.ag [i (8), i (0), .pv false (B [105, 100]), .pv false (E), .pv false (.sl [[I 7, I 0, B [100, 98], E, E]])]], [], (i (2), []))
theorem r54 : RowOk a54 := row_ok (l := []) rnil 100000 a54 (by decide +kernel)
/-- (impl.Expr).parts -/
abbrev a55 : Row := (50, [.ag [i (16), i (0), .pv false (E), .pv false (E), .pv false (.sl [[I 8, I 0, B [105, 100], E, .sl [[I 7, I 0, B [100, 98], E, E]]], [I 2, I 1, E, E, E]])]], [], (i (4), []))
theorem r55 : RowOk a55 := row_ok (l := [a54]) (rcons r54 rnil) 100000 a55 (by decide +kernel)
/-- slices.IndexFunc[[]impl.Expr,impl.Expr] -/
abbrev a56 : Row := (146, [.pv false (.sl [[I 16, I 0, E, E, .sl [[I 8, I 0, B [105, 100], E, .sl [[I 7, I 0, B [100, 98], E, E]]], [I 2, I 1, E, E, E]]]]), .pv true (.cl 87 [])], [], (i (-1), []))
theorem r56 : RowOk a56 := row_ok (l := [a53, a55]) (rcons r53 (rcons r55 rnil)) 100000 a56 (by decide +kernel)
/-- impl.isName -/
abbrev a57 : Row := (90, [.pv false (B [122, 111, 110, 101])], [], (.pv false (.sc (.bool true)), []))
theorem r57 : RowOk a57 := row_ok (l := []) rnil 100000 a57 (by decide +kernel)
/-- impl.isItem -/
abbrev a58 : Row := (47, [.ag [i (1), .pv false (B [119, 101, 98]), i (0), i (0), i (0), .pv false (E), .pv false (E), .pv false (E), .pv false (.sl [[B [122, 111, 110, 101]]]), .pv false (.sl [[I 16, I 0, E, E, .sl [[I 8, I 0, B [105, 100], E, .sl [[I 7, I 0, B [100, 98], E, E]]], [I 2, I 1, E, E, E]]]])]], [], (.pv false (.sc (.bool true)), []))
theorem r58 : RowOk a58 := row_ok (l := [a45, a46, a56, a41, a42, a57]) (rcons r45 (rcons r46 (rcons r56 (rcons r41 (rcons r42 (rcons r57 rnil)))))) 100000 a58 (by decide +kernel)
/-- slices.IndexFunc[[]impl.Item,impl.Item] -/
abbrev a59 : Row := (92, [.pv false (.sl [[I 1, B [100, 98], I 0, I 0, I 0, E, E, E, .sl [[B [115, 105, 122, 101]]], .sl [[I 2, I 2, E, E, E]]]]), .pv true (.cl 49 [.pt [I 1, B [119, 101, 98], I 0, I 0, I 0, E, E, E, .sl [[B [122, 111, 110, 101]]], .sl [[I 16, I 0, E, E, .sl [[I 8, I 0, B [105, 100], E, .sl [[I 7, I 0, B [100, 98], E, E]]], [I 2, I 1, E, E, E]]]]]])], [], (i (-1), []))
theorem r59 : RowOk a59 := row_ok (l := []) rnil 100000 a59 (by decide +kernel)
/-- impl.isConfig -/
abbrev a60 : Row := (24, [.pv false (.sl [[I 1, B [100, 98], I 0, I 0, I 0, E, E, E, .sl [[B [115, 105, 122, 101]]], .sl [[I 2, I 2, E, E, E]]], [I 1, B [119, 101, 98], I 0, I 0, I 0, E, E, E, .sl [[B [122, 111, 110, 101]]], .sl [[I 16, I 0, E, E, .sl [[I 8, I 0, B [105, 100], E, .sl [[I 7, I 0, B [100, 98], E, E]]], [I 2, I 1, E, E, E]]]]]])], [], (.pv false (.sc (.bool true)), []))
theorem r60 : RowOk a60 := row_ok (l := [a44, a58, a59, a55]) (rcons r44 (rcons r58 (rcons r59 (rcons r55 rnil)))) 100000 a60 (by decide +kernel)
/-- slices.SortFunc[[][]byte,[]byte] -/
abbrev a61 : Row := (103, [.ref 0 0 0, .pv true (.cl 91 [])], [(0, .row .io 22 1 [])], (.tu [], [(0, .row .io 22 1 [])]))
theorem r61 : RowOk a61 := row_ok (l := []) rnil 100000 a61 (by decide +kernel)
/-- (impl.Expr).named -/
abbrev a62 : Row := (157, [.ag [i (2), i (2), .pv false (E), .pv false (E), .pv false (E)], i (7)], [], (.pv false (E), []))
theorem r62 : RowOk a62 := row_ok (l := [a61]) (rcons r61 rnil) 100000 a62 (by decide +kernel)
/-- slices.SortFunc[[][]byte,[]byte] -/
abbrev a63 : Row := (103, [.ref 0 0 1, .pv true (.cl 91 [])], [(0, .row .io 22 1 [[B [100, 98]]])], (.tu [], [(0, .row .io 22 1 [[B [100, 98]]])]))
theorem r63 : RowOk a63 := row_ok (l := []) rnil 100000 a63 (by decide +kernel)
/-- (impl.Expr).named -/
abbrev a64 : Row := (157, [.ag [i (7), i (0), .pv false (B [100, 98]), .pv false (E), .pv false (E)], i (7)], [], (.pv false (.sl [[B [100, 98]]]), []))
theorem r64 : RowOk a64 := row_ok (l := [a63]) (rcons r63 rnil) 100000 a64 (by decide +kernel)
/-- (impl.Expr).named -/
abbrev a65 : Row := (157, [.ag [i (8), i (0), .pv false (B [105, 100]), .pv false (E), .pv false (.sl [[I 7, I 0, B [100, 98], E, E]])], i (7)], [], (.pv false (.sl [[B [100, 98]]]), []))
theorem r65 : RowOk a65 := row_ok (l := [a64, a63]) (rcons r64 (rcons r63 rnil)) 100000 a65 (by decide +kernel)
/-- (impl.Expr).named -/
abbrev a66 : Row := (157, [.ag [i (2), i (1), .pv false (E), .pv false (E), .pv false (E)], i (7)], [], (.pv false (E), []))
theorem r66 : RowOk a66 := row_ok (l := [a61]) (rcons r61 rnil) 100000 a66 (by decide +kernel)
/-- (impl.Expr).named -/
abbrev a67 : Row := (157, [.ag [i (16), i (0), .pv false (E), .pv false (E), .pv false (.sl [[I 8, I 0, B [105, 100], E, .sl [[I 7, I 0, B [100, 98], E, E]]], [I 2, I 1, E, E, E]])], i (7)], [], (.pv false (.sl [[B [100, 98]]]), []))
theorem r67 : RowOk a67 := row_ok (l := [a65, a66, a63]) (rcons r65 (rcons r66 (rcons r63 rnil))) 100000 a67 (by decide +kernel)
/-- impl.instsOf -/
abbrev a68 : Row := (55, [.pv false (.sl [[I 1, B [100, 98], I 0, I 0, I 0, E, E, E, .sl [[B [115, 105, 122, 101]]], .sl [[I 2, I 2, E, E, E]]], [I 1, B [119, 101, 98], I 0, I 0, I 0, E, E, E, .sl [[B [122, 111, 110, 101]]], .sl [[I 16, I 0, E, E, .sl [[I 8, I 0, B [105, 100], E, .sl [[I 7, I 0, B [100, 98], E, E]]], [I 2, I 1, E, E, E]]]]]])], [], (.tu [.pv false (.sl [[B [100, 98], I 0, I 0, I 0, E, E, E, I 0, I 0, E, E, E, I 0, I 0, E, E, E], [B [119, 101, 98], I 1, I 0, I 0, E, E, E, I 0, I 0, E, E, E, I 0, I 0, E, E, E]]), .ag [i (5), i (0), .pv false (E), .pv false (E), .pv false (E)], i (0), i (0)], []))
theorem r68 : RowOk a68 := row_ok (l := [a60, a61, a62, a67]) (rcons r60 (rcons r61 (rcons r62 (rcons r67 rnil)))) 100000 a68 (by decide +kernel)
end Go.Proofs.YtmfnklfoocebhaaGreatDoor.Ev
