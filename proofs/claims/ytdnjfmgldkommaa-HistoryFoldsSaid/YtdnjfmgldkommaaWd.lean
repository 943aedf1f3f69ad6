/- Proved here: the types and functions of the program, and how its data lies in memory. -/
import Derived.Test.YtdnjfmgldkommaaWc
import Derived.Test.YtdnjfmgldkommaaProg
import Derived.Shelf.Strings.Search1
import Derived.Shelf.Strings.Search2
import Derived.Shelf.Strings.Search3
import Derived.Shelf.LaysM
import Derived.Shelf.Strings.Shaped
import Derived.Test.YtdnjfmgldkommaaWb
namespace Go.Proofs.Ytdnjfmgldkommaa
open Go.Sx
theorem mixed : Try.prog.follows .mixedOrders = true := by kernel_rfl
instance : One Try.prog 3 := ⟨by kernel_rfl, by kernel_rfl⟩
instance : One Try.prog 4 := ⟨by kernel_rfl, by kernel_rfl⟩
instance : One Try.prog 9 := ⟨by kernel_rfl, by kernel_rfl⟩
instance : One Try.prog 22 := ⟨by kernel_rfl, by kernel_rfl⟩
instance : Agg Try.prog 24 2 := ⟨by kernel_rfl, by kernel_rfl⟩
instance : One Try.prog 29 := ⟨by kernel_rfl, by kernel_rfl⟩
instance : One Try.prog 30 := ⟨by kernel_rfl, by kernel_rfl⟩
instance : One Try.prog 31 := ⟨by kernel_rfl, by kernel_rfl⟩
instance : Agg Try.prog 33 9 := ⟨by kernel_rfl, by kernel_rfl⟩
instance : One Try.prog 34 := ⟨by kernel_rfl, by kernel_rfl⟩
instance : Agg Try.prog 39 9 := ⟨by kernel_rfl, by kernel_rfl⟩
instance : One Try.prog 42 := ⟨by kernel_rfl, by kernel_rfl⟩
instance : One Try.prog 48 := ⟨by kernel_rfl, by kernel_rfl⟩
instance : Agg Try.prog 50 7 := ⟨by kernel_rfl, by kernel_rfl⟩
instance : Agg Try.prog 52 13 := ⟨by kernel_rfl, by kernel_rfl⟩
instance : Agg Try.prog 56 3 := ⟨by kernel_rfl, by kernel_rfl⟩
instance : One Try.prog 57 := ⟨by kernel_rfl, by kernel_rfl⟩
instance : Agg Try.prog 59 7 := ⟨by kernel_rfl, by kernel_rfl⟩
instance : One Try.prog 60 := ⟨by kernel_rfl, by kernel_rfl⟩
instance : Agg Try.prog 70 4 := ⟨by kernel_rfl, by kernel_rfl⟩
instance : Agg Try.prog 100 2 := ⟨by kernel_rfl, by kernel_rfl⟩
instance : One Try.prog 119 := ⟨by kernel_rfl, by kernel_rfl⟩
instance : One Try.prog 135 := ⟨by kernel_rfl, by kernel_rfl⟩
instance : Zero Try.prog 3 [.int .i64 0] := ⟨by kernel_rfl⟩
instance : Zero Try.prog 4 [.bool false] := ⟨by kernel_rfl⟩
instance : Zero Try.prog 5 [.int .u8 0] := ⟨by kernel_rfl⟩
instance : Zero Try.prog 9 [.string ⟨#[]⟩] := ⟨by kernel_rfl⟩
instance : Zero Try.prog 24 [.string ⟨#[]⟩, .slice none 0 0] := ⟨by kernel_rfl⟩
instance : Zero Try.prog 29 [.pointer none] := ⟨by kernel_rfl⟩
instance : Zero Try.prog 33 [.string ⟨#[]⟩, .string ⟨#[]⟩, .string ⟨#[]⟩, .string ⟨#[]⟩, .int .i64 0, .string ⟨#[]⟩, .slice none 0 0, .slice none 0 0, .int .i64 0] := ⟨by kernel_rfl⟩
instance : Zero Try.prog 39 [.int .i64 0, .string ⟨#[]⟩, .string ⟨#[]⟩, .string ⟨#[]⟩, .int .i64 0, .int .i64 0, .int .i64 0, .string ⟨#[]⟩, .string ⟨#[]⟩] := ⟨by kernel_rfl⟩
instance : Zero Try.prog 52 [.int .i64 0, .complex .f64 0 0, .string ⟨#[]⟩, .string ⟨#[]⟩, .int .i64 0, .int .i64 0, .int .i64 0, .string ⟨#[]⟩, .string ⟨#[]⟩, .string ⟨#[]⟩, .string ⟨#[]⟩, .string ⟨#[]⟩, .int .i64 0] := ⟨by kernel_rfl⟩
instance : Zero Try.prog 56 [.int .i64 0, .int .i64 0, .string ⟨#[]⟩] := ⟨by kernel_rfl⟩
instance : Zero Try.prog 59 [.string ⟨#[]⟩, .int .i64 0, .string ⟨#[]⟩, .string ⟨#[]⟩, .int .i64 0, .int .i64 0, .slice none 0 0] := ⟨by kernel_rfl⟩
instance : Zero Try.prog 66 [.bool false, .bool false, .bool false, .bool false, .bool false, .bool false, .bool false, .bool false, .bool false, .bool false, .bool false, .bool false] := ⟨by kernel_rfl⟩
instance : Zero Try.prog 70 [.int .i64 0, .string ⟨#[]⟩, .string ⟨#[]⟩, .int .i64 0] := ⟨by kernel_rfl⟩
instance : Zero Try.prog 100 [.string ⟨#[]⟩, .string ⟨#[]⟩] := ⟨by kernel_rfl⟩
instance : Zero Try.prog 135 [.nilFunc] := ⟨by kernel_rfl⟩
instance : Fld Try.prog 24 0 0 := ⟨by kernel_rfl⟩
instance : Fld Try.prog 24 1 1 := ⟨by kernel_rfl⟩
instance : Fld Try.prog 33 0 0 := ⟨by kernel_rfl⟩
instance : Fld Try.prog 33 1 1 := ⟨by kernel_rfl⟩
instance : Fld Try.prog 33 2 2 := ⟨by kernel_rfl⟩
instance : Fld Try.prog 33 3 3 := ⟨by kernel_rfl⟩
instance : Fld Try.prog 33 4 4 := ⟨by kernel_rfl⟩
instance : Fld Try.prog 33 5 5 := ⟨by kernel_rfl⟩
instance : Fld Try.prog 33 6 6 := ⟨by kernel_rfl⟩
instance : Fld Try.prog 33 7 7 := ⟨by kernel_rfl⟩
instance : Fld Try.prog 33 8 8 := ⟨by kernel_rfl⟩
instance : Fld Try.prog 36 0 0 := ⟨by kernel_rfl⟩
instance : Fld Try.prog 36 1 2 := ⟨by kernel_rfl⟩
instance : Fld Try.prog 36 2 11 := ⟨by kernel_rfl⟩
instance : Fld Try.prog 39 0 0 := ⟨by kernel_rfl⟩
instance : Fld Try.prog 39 1 1 := ⟨by kernel_rfl⟩
instance : Fld Try.prog 39 2 2 := ⟨by kernel_rfl⟩
instance : Fld Try.prog 39 3 3 := ⟨by kernel_rfl⟩
instance : Fld Try.prog 39 4 4 := ⟨by kernel_rfl⟩
instance : Fld Try.prog 39 5 5 := ⟨by kernel_rfl⟩
instance : Fld Try.prog 39 6 6 := ⟨by kernel_rfl⟩
instance : Fld Try.prog 39 7 7 := ⟨by kernel_rfl⟩
instance : Fld Try.prog 39 8 8 := ⟨by kernel_rfl⟩
instance : Fld Try.prog 50 0 0 := ⟨by kernel_rfl⟩
instance : Fld Try.prog 50 2 2 := ⟨by kernel_rfl⟩
instance : Fld Try.prog 52 0 0 := ⟨by kernel_rfl⟩
instance : Fld Try.prog 52 1 1 := ⟨by kernel_rfl⟩
instance : Fld Try.prog 52 2 2 := ⟨by kernel_rfl⟩
instance : Fld Try.prog 52 3 3 := ⟨by kernel_rfl⟩
instance : Fld Try.prog 52 4 4 := ⟨by kernel_rfl⟩
instance : Fld Try.prog 52 5 5 := ⟨by kernel_rfl⟩
instance : Fld Try.prog 52 6 6 := ⟨by kernel_rfl⟩
instance : Fld Try.prog 56 0 0 := ⟨by kernel_rfl⟩
instance : Fld Try.prog 56 1 1 := ⟨by kernel_rfl⟩
instance : Fld Try.prog 56 2 2 := ⟨by kernel_rfl⟩
instance : Fld Try.prog 59 0 0 := ⟨by kernel_rfl⟩
instance : Fld Try.prog 59 1 1 := ⟨by kernel_rfl⟩
instance : Fld Try.prog 59 2 2 := ⟨by kernel_rfl⟩
instance : Fld Try.prog 59 3 3 := ⟨by kernel_rfl⟩
instance : Fld Try.prog 59 4 4 := ⟨by kernel_rfl⟩
instance : Fld Try.prog 59 5 5 := ⟨by kernel_rfl⟩
instance : Fld Try.prog 59 6 6 := ⟨by kernel_rfl⟩
instance : Fld Try.prog 64 0 0 := ⟨by kernel_rfl⟩
instance : Fld Try.prog 64 1 1 := ⟨by kernel_rfl⟩
instance : Fld Try.prog 64 2 2 := ⟨by kernel_rfl⟩
instance : Fld Try.prog 64 3 3 := ⟨by kernel_rfl⟩
instance : Fld Try.prog 70 0 0 := ⟨by kernel_rfl⟩
instance : Fld Try.prog 70 1 1 := ⟨by kernel_rfl⟩
instance : Fld Try.prog 70 2 2 := ⟨by kernel_rfl⟩
instance : Fld Try.prog 70 3 3 := ⟨by kernel_rfl⟩
instance : Fld Try.prog 97 0 0 := ⟨by kernel_rfl⟩
instance : Fld Try.prog 97 1 2 := ⟨by kernel_rfl⟩
instance : Fld Try.prog 97 2 11 := ⟨by kernel_rfl⟩
instance : Fld Try.prog 97 3 12 := ⟨by kernel_rfl⟩
instance : Fld Try.prog 97 4 13 := ⟨by kernel_rfl⟩
instance : Fld Try.prog 100 0 0 := ⟨by kernel_rfl⟩
instance : Fld Try.prog 100 1 1 := ⟨by kernel_rfl⟩
instance : Fld Try.prog 113 0 0 := ⟨by kernel_rfl⟩
instance : Fld Try.prog 113 1 2 := ⟨by kernel_rfl⟩
instance : Fld Try.prog 113 2 11 := ⟨by kernel_rfl⟩
instance : Fld Try.prog 113 3 12 := ⟨by kernel_rfl⟩
instance : Fld Try.prog 113 4 13 := ⟨by kernel_rfl⟩
instance : Slc Try.prog 22 59 7 96 := ⟨by kernel_rfl, by kernel_rfl, by kernel_rfl⟩
instance : Slc Try.prog 25 39 9 112 := ⟨by kernel_rfl, by kernel_rfl, by kernel_rfl⟩
instance : Slc Try.prog 30 56 3 32 := ⟨by kernel_rfl, by kernel_rfl, by kernel_rfl⟩
instance : Slc Try.prog 31 100 2 32 := ⟨by kernel_rfl, by kernel_rfl, by kernel_rfl⟩
instance : Slc Try.prog 34 70 4 48 := ⟨by kernel_rfl, by kernel_rfl, by kernel_rfl⟩
instance : Slc Try.prog 42 52 13 168 := ⟨by kernel_rfl, by kernel_rfl, by kernel_rfl⟩
instance : Slc Try.prog 57 9 1 16 := ⟨by kernel_rfl, by kernel_rfl, by kernel_rfl⟩
instance : Slc Try.prog 60 4 1 1 := ⟨by kernel_rfl, by kernel_rfl, by kernel_rfl⟩
instance : Slc Try.prog 65 5 1 1 := ⟨by kernel_rfl, by kernel_rfl, by kernel_rfl⟩
instance : Slc Try.prog 108 3 1 8 := ⟨by kernel_rfl, by kernel_rfl, by kernel_rfl⟩
instance : Arr Try.prog 66 12 1 := ⟨by kernel_rfl⟩
instance : Str Try.prog 9 := ⟨by kernel_rfl⟩
instance : Bld Try.prog 24 [.string ⟨#[]⟩, .slice none 0 0] [(0, 1), (1, 1)] := ⟨by kernel_rfl, by kernel_rfl⟩
instance : Bld Try.prog 33 [.string ⟨#[]⟩, .string ⟨#[]⟩, .string ⟨#[]⟩, .string ⟨#[]⟩, .int .i64 0, .string ⟨#[]⟩, .slice none 0 0, .slice none 0 0, .int .i64 0] [(0, 1), (1, 1), (2, 1), (3, 1), (4, 1), (5, 1), (6, 1), (7, 1), (8, 1)] := ⟨by kernel_rfl, by kernel_rfl⟩
instance : Bld Try.prog 36 [.string ⟨#[]⟩, .slice none 0 0, .string ⟨#[]⟩, .string ⟨#[]⟩, .string ⟨#[]⟩, .string ⟨#[]⟩, .int .i64 0, .string ⟨#[]⟩, .slice none 0 0, .slice none 0 0, .int .i64 0, .slice none 0 0] [(0, 2), (2, 9), (11, 1)] := ⟨by kernel_rfl, by kernel_rfl⟩
instance : Bld Try.prog 39 [.int .i64 0, .string ⟨#[]⟩, .string ⟨#[]⟩, .string ⟨#[]⟩, .int .i64 0, .int .i64 0, .int .i64 0, .string ⟨#[]⟩, .string ⟨#[]⟩] [(0, 1), (1, 1), (2, 1), (3, 1), (4, 1), (5, 1), (6, 1), (7, 1), (8, 1)] := ⟨by kernel_rfl, by kernel_rfl⟩
instance : Bld Try.prog 50 [.int .i64 0, .string ⟨#[]⟩, .string ⟨#[]⟩, .string ⟨#[]⟩, .string ⟨#[]⟩, .string ⟨#[]⟩, .int .i64 0] [(0, 1), (1, 1), (2, 1), (3, 1), (4, 1), (5, 1), (6, 1)] := ⟨by kernel_rfl, by kernel_rfl⟩
instance : Bld Try.prog 52 [.int .i64 0, .complex .f64 0 0, .string ⟨#[]⟩, .string ⟨#[]⟩, .int .i64 0, .int .i64 0, .int .i64 0, .string ⟨#[]⟩, .string ⟨#[]⟩, .string ⟨#[]⟩, .string ⟨#[]⟩, .string ⟨#[]⟩, .int .i64 0] [(0, 1), (1, 1), (2, 1), (3, 1), (4, 1), (5, 1), (6, 7)] := ⟨by kernel_rfl, by kernel_rfl⟩
instance : Bld Try.prog 56 [.int .i64 0, .int .i64 0, .string ⟨#[]⟩] [(0, 1), (1, 1), (2, 1)] := ⟨by kernel_rfl, by kernel_rfl⟩
instance : Bld Try.prog 59 [.string ⟨#[]⟩, .int .i64 0, .string ⟨#[]⟩, .string ⟨#[]⟩, .int .i64 0, .int .i64 0, .slice none 0 0] [(0, 1), (1, 1), (2, 1), (3, 1), (4, 1), (5, 1), (6, 1)] := ⟨by kernel_rfl, by kernel_rfl⟩
instance : Bld Try.prog 70 [.int .i64 0, .string ⟨#[]⟩, .string ⟨#[]⟩, .int .i64 0] [(0, 1), (1, 1), (2, 1), (3, 1)] := ⟨by kernel_rfl, by kernel_rfl⟩
instance : Bld Try.prog 97 [.string ⟨#[]⟩, .slice none 0 0, .string ⟨#[]⟩, .string ⟨#[]⟩, .string ⟨#[]⟩, .string ⟨#[]⟩, .int .i64 0, .string ⟨#[]⟩, .slice none 0 0, .slice none 0 0, .int .i64 0, .int .i64 0, .slice none 0 0, .slice none 0 0] [(0, 2), (2, 9), (11, 1), (12, 1), (13, 1)] := ⟨by kernel_rfl, by kernel_rfl⟩
instance : Bld Try.prog 100 [.string ⟨#[]⟩, .string ⟨#[]⟩] [(0, 1), (1, 1)] := ⟨by kernel_rfl, by kernel_rfl⟩
instance : Bld Try.prog 113 [.string ⟨#[]⟩, .slice none 0 0, .string ⟨#[]⟩, .string ⟨#[]⟩, .string ⟨#[]⟩, .string ⟨#[]⟩, .int .i64 0, .string ⟨#[]⟩, .slice none 0 0, .slice none 0 0, .int .i64 0, .int .i64 0, .slice none 0 0, .slice none 0 0] [(0, 2), (2, 9), (11, 1), (12, 1), (13, 1)] := ⟨by kernel_rfl, by kernel_rfl⟩
instance : Fun Try.prog 3 := ⟨by kernel_rfl⟩
instance : Fun Try.prog 4 := ⟨by kernel_rfl⟩
instance : Fun Try.prog 5 := ⟨by kernel_rfl⟩
instance : Fun Try.prog 6 := ⟨by kernel_rfl⟩
instance : Fun Try.prog 7 := ⟨by kernel_rfl⟩
instance : Fun Try.prog 8 := ⟨by kernel_rfl⟩
instance : Fun Try.prog 9 := ⟨by kernel_rfl⟩
instance : Fun Try.prog 10 := ⟨by kernel_rfl⟩
instance : Fun Try.prog 11 := ⟨by kernel_rfl⟩
instance : Fun Try.prog 12 := ⟨by kernel_rfl⟩
instance : Fun Try.prog 13 := ⟨by kernel_rfl⟩
instance : Fun Try.prog 14 := ⟨by kernel_rfl⟩
instance : Fun Try.prog 15 := ⟨by kernel_rfl⟩
instance : Fun Try.prog 16 := ⟨by kernel_rfl⟩
instance : Fun Try.prog 17 := ⟨by kernel_rfl⟩
instance : Fun Try.prog 18 := ⟨by kernel_rfl⟩
instance : Fun Try.prog 19 := ⟨by kernel_rfl⟩
instance : Fun Try.prog 20 := ⟨by kernel_rfl⟩
instance : Fun Try.prog 21 := ⟨by kernel_rfl⟩
instance : Fun Try.prog 22 := ⟨by kernel_rfl⟩
instance : Fun Try.prog 23 := ⟨by kernel_rfl⟩
instance : Fun Try.prog 24 := ⟨by kernel_rfl⟩
instance : Fun Try.prog 25 := ⟨by kernel_rfl⟩
instance : Fun Try.prog 26 := ⟨by kernel_rfl⟩
instance : Fun Try.prog 27 := ⟨by kernel_rfl⟩
instance : Fun Try.prog 28 := ⟨by kernel_rfl⟩
instance : Fun Try.prog 29 := ⟨by kernel_rfl⟩
instance : Fun Try.prog 30 := ⟨by kernel_rfl⟩
instance : Fun Try.prog 31 := ⟨by kernel_rfl⟩
instance : Fun Try.prog 32 := ⟨by kernel_rfl⟩
instance : Fun Try.prog 33 := ⟨by kernel_rfl⟩
instance : Fun Try.prog 34 := ⟨by kernel_rfl⟩
instance : Fun Try.prog 35 := ⟨by kernel_rfl⟩
instance : Fun Try.prog 36 := ⟨by kernel_rfl⟩
instance : Fun Try.prog 37 := ⟨by kernel_rfl⟩
instance : Fun Try.prog 38 := ⟨by kernel_rfl⟩
instance : Fun Try.prog 39 := ⟨by kernel_rfl⟩
instance : Fun Try.prog 40 := ⟨by kernel_rfl⟩
instance : Fun Try.prog 41 := ⟨by kernel_rfl⟩
instance : Fun Try.prog 42 := ⟨by kernel_rfl⟩
instance : Fun Try.prog 43 := ⟨by kernel_rfl⟩
instance : Fun Try.prog 44 := ⟨by kernel_rfl⟩
instance : Fun Try.prog 45 := ⟨by kernel_rfl⟩
instance : Fun Try.prog 46 := ⟨by kernel_rfl⟩
instance : Fun Try.prog 47 := ⟨by kernel_rfl⟩
instance : Fun Try.prog 48 := ⟨by kernel_rfl⟩
instance : Fun Try.prog 49 := ⟨by kernel_rfl⟩
instance : Fun Try.prog 50 := ⟨by kernel_rfl⟩
instance : Fun Try.prog 51 := ⟨by kernel_rfl⟩
instance : Fun Try.prog 52 := ⟨by kernel_rfl⟩
instance : Fun Try.prog 53 := ⟨by kernel_rfl⟩
instance : Fun Try.prog 54 := ⟨by kernel_rfl⟩
instance : Fun Try.prog 55 := ⟨by kernel_rfl⟩
instance : Fun Try.prog 56 := ⟨by kernel_rfl⟩
instance : Fun Try.prog 57 := ⟨by kernel_rfl⟩
instance : Fun Try.prog 58 := ⟨by kernel_rfl⟩
instance : Fun Try.prog 59 := ⟨by kernel_rfl⟩
instance : Fun Try.prog 60 := ⟨by kernel_rfl⟩
instance : Fun Try.prog 61 := ⟨by kernel_rfl⟩
instance : Fun Try.prog 62 := ⟨by kernel_rfl⟩
instance : Fun Try.prog 63 := ⟨by kernel_rfl⟩
instance : Fun Try.prog 64 := ⟨by kernel_rfl⟩
instance : Fun Try.prog 65 := ⟨by kernel_rfl⟩
instance : Fun Try.prog 66 := ⟨by kernel_rfl⟩
instance : Fun Try.prog 67 := ⟨by kernel_rfl⟩
instance : Fun Try.prog 68 := ⟨by kernel_rfl⟩
instance : Fun Try.prog 69 := ⟨by kernel_rfl⟩
instance : Fun Try.prog 70 := ⟨by kernel_rfl⟩
instance : Fun Try.prog 71 := ⟨by kernel_rfl⟩
instance : Fun Try.prog 72 := ⟨by kernel_rfl⟩
instance : Fun Try.prog 73 := ⟨by kernel_rfl⟩
instance : Fun Try.prog 74 := ⟨by kernel_rfl⟩
instance : Fun Try.prog 75 := ⟨by kernel_rfl⟩
instance : Fun Try.prog 76 := ⟨by kernel_rfl⟩
instance : Fun Try.prog 77 := ⟨by kernel_rfl⟩
instance : Fun Try.prog 78 := ⟨by kernel_rfl⟩
instance : Fun Try.prog 79 := ⟨by kernel_rfl⟩
instance : Fun Try.prog 80 := ⟨by kernel_rfl⟩
instance : Fun Try.prog 81 := ⟨by kernel_rfl⟩
instance : Fun Try.prog 82 := ⟨by kernel_rfl⟩
instance : Fun Try.prog 83 := ⟨by kernel_rfl⟩
instance : Fun Try.prog 84 := ⟨by kernel_rfl⟩
instance : Fun Try.prog 85 := ⟨by kernel_rfl⟩
instance : Fun Try.prog 86 := ⟨by kernel_rfl⟩
instance : Fun Try.prog 87 := ⟨by kernel_rfl⟩
instance : Fun Try.prog 88 := ⟨by kernel_rfl⟩
instance : Fun Try.prog 89 := ⟨by kernel_rfl⟩
instance : Fun Try.prog 90 := ⟨by kernel_rfl⟩
instance : Fun Try.prog 91 := ⟨by kernel_rfl⟩
instance : Fun Try.prog 92 := ⟨by kernel_rfl⟩
instance : Fun Try.prog 93 := ⟨by kernel_rfl⟩
instance : Fun Try.prog 94 := ⟨by kernel_rfl⟩
instance : Fun Try.prog 95 := ⟨by kernel_rfl⟩
instance : Fun Try.prog 96 := ⟨by kernel_rfl⟩
instance : Fun Try.prog 97 := ⟨by kernel_rfl⟩
instance : Fun Try.prog 98 := ⟨by kernel_rfl⟩
instance : Fun Try.prog 99 := ⟨by kernel_rfl⟩
instance : Fun Try.prog 100 := ⟨by kernel_rfl⟩
instance : Fun Try.prog 101 := ⟨by kernel_rfl⟩
instance : Fun Try.prog 102 := ⟨by kernel_rfl⟩
instance : Fun Try.prog 103 := ⟨by kernel_rfl⟩
instance : Fun Try.prog 104 := ⟨by kernel_rfl⟩
structure Ns where
  st : Int
  try_ : Int
  text : ByteArray
structure Sg where
  name : ByteArray
  text : ByteArray
structure Ev where
  kind : Int
  node : ByteArray
  text : ByteArray
  number : Int
structure Ml where
  kind : Int
  to_ : ByteArray
  from_ : ByteArray
  node : ByteArray
  name : ByteArray
  text : ByteArray
  status : Int
structure Tk where
  kind : Int
  flow : ByteArray
  node : ByteArray
  try_ : Int
  at_ : Int
  mail : Ml
structure Inp where
  kind : Int
  node : ByteArray
  name : ByteArray
  text : ByteArray
  try_ : Int
  status : Int
  now : Int
  parent : ByteArray
  pnode : ByteArray
structure Nd where
  name : ByteArray
  kind : Int
  arg : ByteArray
  to_ : ByteArray
  delay : Int
  tries : Int
  after : List ByteArray
structure Df where
  name : ByteArray
  nodes : List Nd
structure Sta where
  df : ByteArray
  id : ByteArray
  parent : ByteArray
  pnode : ByteArray
  status : Int
  text : ByteArray
  nodes : List Ns
  sigs : List Sg
  events : Int
deriving instance DecidableEq for Ns, Sg, Ev, Ml, Tk, Inp, Nd, Df, Sta
@[reducible] def Ns.c (x : Ns) : List Value := [.int .i64 x.st, .int .i64 x.try_, .string x.text]
@[reducible] def Sg.c (x : Sg) : List Value := [.string x.name, .string x.text]
@[reducible] def Ev.c (x : Ev) : List Value := [.int .i64 x.kind, .string x.node, .string x.text, .int .i64 x.number]
@[reducible] def Ml.c (x : Ml) : List Value := [.int .i64 x.kind, .string x.to_, .string x.from_, .string x.node, .string x.name, .string x.text, .int .i64 x.status]
@[reducible] def Tk.c (x : Tk) : List Value := [.int .i64 x.kind, .complex .f64 0 0, .string x.flow, .string x.node, .int .i64 x.try_, .int .i64 x.at_,
  .int .i64 x.mail.kind, .string x.mail.to_, .string x.mail.from_, .string x.mail.node, .string x.mail.name, .string x.mail.text, .int .i64 x.mail.status]
@[reducible] def Inp.c (x : Inp) : List Value := [.int .i64 x.kind, .string x.node, .string x.name, .string x.text, .int .i64 x.try_, .int .i64 x.status, .int .i64 x.now, .string x.parent, .string x.pnode]
@[reducible] def Nd.c (x : Nd) (av : Value) : List Value := [.string x.name, .int .i64 x.kind, .string x.arg, .string x.to_, .int .i64 x.delay, .int .i64 x.tries, av]
@[reducible] def Sta.c (x : Sta) (n s : Value) : List Value := [.string x.df, .string x.id, .string x.parent, .string x.pnode, .int .i64 x.status, .string x.text, n, s, .int .i64 x.events]
@[reducible] def strC (s : ByteArray) : List Value := [.string s]
@[reducible] def boolC (b : Bool) : List Value := [.bool b]
@[reducible] def intC (b : Int) : List Value := [.int .i64 b]
section
variable {α : Type} {f : α → List Value} {k : Nat}
theorem flat_len (hk : ∀ x, (f x).length = k) (l : List α) : (l.flatMap f).length = l.length * k := by
  induction l with
  | nil => simp
  | cons x l ih => simp only [List.flatMap_cons, List.length_append, hk, ih, List.length_cons]; rw [Nat.add_mul]; omega
theorem flat_get (hk : ∀ x, (f x).length = k) : ∀ (l : List α) (i : Nat) (x : α), l[i]? = some x → ∀ (j : Nat) (u : Value), (f x)[j]? = some u → (l.flatMap f)[i * k + j]? = some u := by
  intro l
  induction l with
  | nil => intro i x h; simp at h
  | cons y l ih =>
    intro i x h j u hu
    have hj : j < k := by rw [← hk x]; exact (List.getElem?_eq_some_iff.1 hu).1
    cases i with
    | zero =>
      simp at h
      subst h
      rw [List.flatMap_cons, List.getElem?_append_left (by simp [hk]; omega)]
      simpa using hu
    | succ i =>
      simp at h
      rw [List.flatMap_cons, List.getElem?_append_right (by simp only [hk]; rw [Nat.succ_mul]; omega)]
      have := ih i x h j u hu
      rw [hk y, show (i + 1) * k + j - k = i * k + j from by rw [Nat.succ_mul]; omega]
      exact this
theorem tk_append : ∀ (xs sp : List Value), tk (xs ++ sp) xs.length = some xs := by
  intro xs
  induction xs with
  | nil => intro sp; simp [tk]
  | cons x xs ih => intro sp; simp [tk, ih]
theorem sl_own (xs sp : List Value) : sl (xs ++ sp) 0 xs.length = some xs := by
  cases h : xs ++ sp <;> simpa [sl, h] using tk_append xs sp
theorem sl_append : ∀ (a b c : List Value), sl (a ++ (b ++ c)) a.length b.length = some b := by
  intro a
  induction a with
  | nil => intro b c; exact sl_own b c
  | cons x a ih => intro b c; simpa [sl] using ih b c
theorem flat_split (l : List α) (i : Nat) (x : α) (h : l[i]? = some x) : l.flatMap f = (l.take i).flatMap f ++ (f x ++ (l.drop (i + 1)).flatMap f) := by
  have hlt := (List.getElem?_eq_some_iff.1 h).1
  have hx : l[i] = x := (List.getElem?_eq_some_iff.1 h).2
  conv => lhs; rw [← List.take_append_drop i l]
  rw [List.flatMap_append, List.drop_eq_getElem_cons hlt, List.flatMap_cons, hx]
theorem flat_sl (hk : ∀ x, (f x).length = k) (l : List α) (sp : List Value) (i : Nat) (x : α) (h : l[i]? = some x) : sl (l.flatMap f ++ sp) (i * k) k = some (f x) := by
  have hlt := (List.getElem?_eq_some_iff.1 h).1
  rw [flat_split l i x h, List.append_assoc, List.append_assoc]
  have e : ((l.take i).flatMap f).length = i * k := by rw [flat_len hk]; simp; rw [Nat.min_eq_left (by omega)]
  have := sl_append ((l.take i).flatMap f) (f x) ((l.drop (i + 1)).flatMap f ++ sp)
  rw [e, hk] at this
  exact this
theorem flat_nv (hk : ∀ x, (f x).length = k) (l : List α) (sp : List Value) (i : Nat) (x : α) (h : l[i]? = some x) (j : Nat) (u : Value) (hu : (f x)[j]? = some u) : nv (l.flatMap f ++ sp) (i * k + j) = some u := by
  rw [nv_eq]
  have := flat_get hk l i x h j u hu
  have hlt := (List.getElem?_eq_some_iff.1 this).1
  rw [List.getElem?_append_left hlt]; exact this
theorem ov_append : ∀ (b b' c : List Value), b'.length = b.length → ov (b ++ c) b' = some (b' ++ c) := by
  intro b
  induction b with
  | nil => intro b' c h; have : b' = [] := List.eq_nil_of_length_eq_zero (by simpa using h); subst this; simp [ov]
  | cons x b ih =>
    intro b' c h
    cases b' with
    | nil => simp at h
    | cons y b' => simp at h; simp [ov, ih b' c h]
theorem st_append : ∀ (a b b' c : List Value), b'.length = b.length → st (a ++ (b ++ c)) a.length b' = some (a ++ (b' ++ c)) := by
  intro a
  induction a with
  | nil => intro b b' c h; cases hb : b ++ c <;> simpa [st, hb] using ov_append b b' c h
  | cons x a ih => intro b b' c h; simp only [List.cons_append, List.length_cons, st, ih b b' c h]
theorem flat_st (hk : ∀ x, (f x).length = k) (l : List α) (sp : List Value) (i : Nat) (x y : α) (h : l[i]? = some x) : st (l.flatMap f ++ sp) (i * k) (f y) = some ((l.set i y).flatMap f ++ sp) := by
  have hlt := (List.getElem?_eq_some_iff.1 h).1
  rw [flat_split l i x h, List.append_assoc, List.append_assoc]
  have e : ((l.take i).flatMap f).length = i * k := by rw [flat_len hk]; simp; rw [Nat.min_eq_left (by omega)]
  have := st_append ((l.take i).flatMap f) (f x) (f y) ((l.drop (i + 1)).flatMap f ++ sp) (by rw [hk, hk])
  rw [e] at this
  rw [this]
  have h2 : (l.set i y)[i]? = some y := by simp [hlt]
  rw [flat_split (l.set i y) i y h2, List.append_assoc, List.append_assoc]
  congr 3
  · rw [List.take_set_of_le (Nat.le_refl i)]
  · rw [List.drop_set_of_lt (by omega)]
theorem st_mid : ∀ (a : List Value) (x u : Value) (c : List Value) (j : Nat), a.length = j → st (a ++ x :: c) j [u] = some (a ++ u :: c) := by
  intro a x u c j hj
  subst hj
  exact st_append a [x] [u] c rfl
theorem flat_st1 (hk : ∀ x, (f x).length = k) (l : List α) (sp : List Value) (i : Nat) (x y : α) (h : l[i]? = some x) (j : Nat) (u : Value) (hj : j < k) (hy : f y = (f x).set j u) :
    st (l.flatMap f ++ sp) (i * k + j) [u] = some ((l.set i y).flatMap f ++ sp) := by
  have hlt := (List.getElem?_eq_some_iff.1 h).1
  have e : ((l.take i).flatMap f).length = i * k := by rw [flat_len hk]; simp; rw [Nat.min_eq_left (by omega)]
  have h2 : (l.set i y)[i]? = some y := by simp [hlt]
  rw [flat_split l i x h, flat_split (l.set i y) i y h2, List.take_set_of_le (Nat.le_refl i), List.drop_set_of_lt (by omega)]
  have hfx : (f x).length = k := hk x
  have hsp : f x = (f x).take j ++ (f x)[j] :: (f x).drop (j + 1) := by
    conv => lhs; rw [← List.take_append_drop j (f x)]
    rw [List.drop_eq_getElem_cons (by omega)]
  have hsy : f y = (f x).take j ++ u :: (f x).drop (j + 1) := by
    rw [hy, List.set_eq_take_append_cons_drop, if_pos (by omega)]
  rw [hsy]
  conv => lhs; rw [hsp]
  have := st_mid ((l.take i).flatMap f ++ (f x).take j) ((f x)[j]'(by omega)) u ((f x).drop (j + 1) ++ ((l.drop (i + 1)).flatMap f ++ sp)) (i * k + j) (by simp [e, hfx]; omega)
  simp only [List.append_assoc, List.cons_append] at this ⊢
  exact this
theorem plain_flat (hp : ∀ x, plain (f x) = true) (l : List α) : plain (l.flatMap f) = true := by
  induction l with
  | nil => rfl
  | cons x l ih =>
    simp only [plain, List.flatMap_cons, List.all_append, Bool.and_eq_true]
    exact ⟨hp x, ih⟩
end
abbrev View := Nat → Nat → Value → Prop
def RSl (V : View) (v : Value) (n : Nat) (cells : List Value) : Prop :=
  ∃ A cap, v = .slice A n cap ∧ (cells = [] ∨ ∃ b o, A = some ⟨b, o, none⟩ ∧ ∀ (j : Nat) (u : Value), cells[j]? = some u → V b (o + j) u)
theorem RSl.mono {V V' : View} {v : Value} {n : Nat} {cells : List Value} (h : RSl V v n cells) (hv : ∀ b o u, V b o u → V' b o u) : RSl V' v n cells := by
  obtain ⟨A, cap, h1, h2⟩ := h
  refine ⟨A, cap, h1, ?_⟩
  rcases h2 with h2 | ⟨b, o, h2, h3⟩
  · exact .inl h2
  · exact .inr ⟨b, o, h2, fun j u hu => hv _ _ _ (h3 j u hu)⟩
theorem RSl.own {V : View} (o : OwnD) {xs : List Value} {T : TypeId} {n k : Nat} (ho : o.ok n k xs)
    (hv : ∀ b cs, o.ent xs T = some (b, cs, T) → ∀ j u, nv cs j = some u → V b j u) : RSl V (o.val n) n xs := by
  cases o with
  | none =>
    have h0 : n = 0 := ho.2
    subst h0
    have : xs = [] := List.eq_nil_of_length_eq_zero (by simpa using ho.1)
    exact ⟨none, 0, rfl, .inl this⟩
  | some q =>
    obtain ⟨E, cap, sp⟩ := q
    refine ⟨_, cap, rfl, .inr ⟨E, 0, rfl, fun j u hu => ?_⟩⟩
    rw [Nat.zero_add]
    refine hv E (xs ++ sp) rfl j u ?_
    rw [nv_eq, List.getElem?_append_left (List.getElem?_eq_some_iff.1 hu).1]; exact hu
def RNd (V : View) (b o : Nat) (x : Nd) (av : Value) : Prop := RSl V av x.after.length (x.after.flatMap strC) ∧ ∀ (j : Nat) (u : Value), (x.c av)[j]? = some u → V b (o + j) u
def RDf (V : View) (dv : Value) (D : Df) : Prop :=
  ∃ A cap, dv = .agg #[.string D.name, .slice A D.nodes.length cap] ∧ ∀ (i : Nat) (x : Nd), D.nodes[i]? = some x → ∃ b o av, A = some ⟨b, o, none⟩ ∧ RNd V b (o + i * 7) x av
theorem RNd.mono {V V' : View} {b o : Nat} {x : Nd} {av : Value} (h : RNd V b o x av) (hv : ∀ b o u, V b o u → V' b o u) : RNd V' b o x av :=
  ⟨h.1.mono hv, fun j u hu => hv _ _ _ (h.2 j u hu)⟩
theorem RDf.mono {V V' : View} {dv : Value} {D : Df} (h : RDf V dv D) (hv : ∀ b o u, V b o u → V' b o u) : RDf V' dv D := by
  obtain ⟨A, cap, h1, h2⟩ := h
  refine ⟨A, cap, h1, fun i x hx => ?_⟩
  obtain ⟨b, o, av, h3, h4⟩ := h2 i x hx
  exact ⟨b, o, av, h3, h4.mono hv⟩
def RSt (V : View) (sv : Value) (S : Sta) : Prop :=
  ∃ n s, sv = .agg (S.c n s).toArray ∧ RSl V n S.nodes.length (S.nodes.flatMap Ns.c) ∧ RSl V s S.sigs.length (S.sigs.flatMap Sg.c)
theorem RSt.mono {V V' : View} {sv : Value} {S : Sta} (h : RSt V sv S) (hv : ∀ b o u, V b o u → V' b o u) : RSt V' sv S := by
  obtain ⟨n, s, h1, h2, h3⟩ := h
  exact ⟨n, s, h1, h2.mono hv, h3.mono hv⟩
def Ans (f : FuncId) (args : List Value) (w : World) (v : Value) : Prop := Calls Try.prog f args.toArray w (Ret w [] (fun _ : Unit => True) (fun _ => v) (fun _ => []))
theorem OwnD.plain_val (o : OwnD) (n : Nat) : (o.val n).oneCell' = true := by cases o <;> rfl
theorem OwnD.cells_val (o : OwnD) (n : Nat) : (o.val n).cells.toList = [o.val n] := by cases o <;> rfl
section
variable {ops : Array Oper} {w0 : World} {Mod : List Nat} {n : Nat} {F : FL} {M : ML} {K : Act → World → Prop} {chk : List Nat} {ty : TypeId} {pos : String} {aft : Array Edge} {d : Nat}
set_option maxRecDepth 100000 in
theorem SK.callA {f : FuncId} {args : Array Operand} {ats : Array TypeId} {vs : List Value} {v : Value} [Fun Try.prog f] (hd : Nat.blt d n = true)
    (hargs : evL F args.toList = some vs)
    (hc : ∀ w, (∀ b o v, Vw w0 Mod b o v → Vw w [] b o v) → (∀ b cs T, some (b, cs, T) ∈ M → ∀ o v, nv cs o = some v → Vw w [] b o v) → Ans f vs w v)
    (h : SK w0 Mod n (chkE Try.prog ops chk K) ((d, v) :: F) M) : SK w0 Mod n (stepE Try.prog ops ⟨some d, .call ⟨.value (.func f), args, ats⟩, ty, pos, aft, none⟩ chk K) F M := by
  refine SK.call hd hargs [] M ?_ (fun _ : Unit => True) (fun _ => v) (fun _ => []) (fun w _ h1 h2 => hc w h1 h2) (fun _ _ => h)
  have : ∀ M : ML, Wk M M := by
    intro M
    induction M with
    | nil => exact Wk.nil _
    | cons e M ih => exact Wk.pick (Pick.head M) ih
  exact this M
set_option maxRecDepth 100000 in
theorem SK.callVA {x : Operand} {f : FuncId} {fs cs : Array Value} {args : Array Operand} {ats : Array TypeId} {vs : List Value} {v : Value} [Fun Try.prog f] (hd : Nat.blt d n = true)
    (hx : ev F x = some (.func (.func f) fs cs)) (hargs : evL F args.toList = some vs)
    (hc : ∀ w, (∀ b o v, Vw w0 Mod b o v → Vw w [] b o v) → (∀ b cs T, some (b, cs, T) ∈ M → ∀ o v, nv cs o = some v → Vw w [] b o v) → Ans f (fs.toList ++ vs ++ cs.toList) w v)
    (h : SK w0 Mod n (chkE Try.prog ops chk K) ((d, v) :: F) M) : SK w0 Mod n (stepE Try.prog ops ⟨some d, .call ⟨.value x, args, ats⟩, ty, pos, aft, none⟩ chk K) F M := by
  refine SK.callV hd hx hargs [] M ?_ (fun _ : Unit => True) (fun _ => v) (fun _ => []) (fun w _ h1 h2 => ?_) (fun _ _ => h)
  · have : ∀ M : ML, Wk M M := by
      intro M
      induction M with
      | nil => exact Wk.nil _
      | cons e M ih => exact Wk.pick (Pick.head M) ih
    exact this M
  · have := hc w h1 h2
    unfold Ans at this
    have e : (fs.toList ++ vs ++ cs.toList).toArray = fs ++ vs.toArray ++ cs := by simp
    rw [e] at this
    exact this
end
end Go.Proofs.Ytdnjfmgldkommaa
namespace Go.Proofs
open Go.Shelf
def Try.lays217_ren : Go.Shelf.Ren := ⟨fun | 217 => 104 | 266 => 108 | n => n, fun | 9 => 9 | 5 => 5 | 3 => 3 | n => n, fun | n => n⟩
theorem Try.lays217 : Go.Proofs.Lays.n217 Try.prog Try.lays217_ren := {
  mixed := by kernel_rfl
  f217 := Try.func104.trans (congrArg some (by kernel_rfl))
  f266 := Try.func108.trans (congrArg some (by kernel_rfl))
  t3 := Try.underlying3
  a3 := Try.isAgg3
  z3 := Try.sizeOf3
  v3 := Try.zeroValue3
  t5 := Try.underlying5
  a5 := Try.isAgg5
  z5 := Try.sizeOf5
  v5 := Try.zeroValue5
  t9 := Try.underlying9
  a9 := Try.isAgg9
  z9 := Try.sizeOf9
  v9 := Try.zeroValue9 }
open Go.RowKit Go.Lib in
theorem Try.stringslite_IndexByte (s : ByteArray) (c : Int) (w : World) :
    Calls Try.prog 104 #[.string s, .int .u8 c] w fun e w' => e = .returned (.int .i64 (Lib.indexByte s.data.toList c.toNat.toUInt8)) ∧ w' = w := Any.stringslite_IndexByte Try.lays217 s c w
def Try.lays224_ren : Go.Shelf.Ren := ⟨fun | 224 => 106 | n => n, fun | 3 => 3 | n => n, fun | n => n⟩
theorem Try.lays224 : Go.Proofs.Lays.n224 Try.prog Try.lays224_ren := {
  mixed := by kernel_rfl
  f224 := Try.func106.trans (congrArg some (by kernel_rfl))
  t3 := Try.underlying3
  a3 := Try.isAgg3
  z3 := Try.sizeOf3
  v3 := Try.zeroValue3 }
open Go.RowKit Go.Lib in
theorem Try.bytealg_Cutover (n : Int) (h0 : 0 ≤ n) (h1 : n < 4611686018427387904) (w : World) :
    Calls Try.prog 106 #[.int .i64 n] w fun e w' => e = .returned (.int .i64 ((n + 16) / 8)) ∧ w' = w := Any.bytealg_Cutover Try.lays224 n h0 h1 w
def Try.lays314_ren : Go.Shelf.Ren := ⟨fun | 314 => 109 | n => n, fun | 9 => 9 | 51 => 148 | 3 => 3 | 4 => 4 | 5 => 5 | 46 => 147 | n => n, fun | n => n⟩
theorem Try.lays314 : Go.Proofs.Lays.n314 Try.prog Try.lays314_ren := {
  mixed := by kernel_rfl
  f314 := Try.func109.trans (congrArg some (by kernel_rfl))
  t3 := Try.underlying3
  a3 := Try.isAgg3
  z3 := Try.sizeOf3
  v3 := Try.zeroValue3
  t4 := Try.underlying4
  a4 := Try.isAgg4
  z4 := Try.sizeOf4
  v4 := Try.zeroValue4
  t5 := Try.underlying5
  a5 := Try.isAgg5
  z5 := Try.sizeOf5
  v5 := Try.zeroValue5
  t9 := Try.underlying9
  a9 := Try.isAgg9
  z9 := Try.sizeOf9
  v9 := Try.zeroValue9
  t46 := Try.underlying147
  a46 := Try.isAgg147
  z46 := Try.sizeOf147
  v46 := Try.zeroValue147
  t51 := Try.underlying148
  a51 := Try.isAgg148
  z51 := Try.sizeOf148
  v51 := Try.zeroValue148 }
open Go.RowKit Go.Lib in
theorem Try.bytealg_hashStr (sep : ByteArray) (hs : sep.size < 4294967281) (w : World) :
    Calls Try.prog 109 #[.string sep] w fun e w' => e = .returned (.tuple #[.int .u32 (RK.H sep.data.toList % 4294967296), .int .u32 (16777619 ^ sep.size % 4294967296)]) ∧ w' = w := Any.bytealg_hashStr Try.lays314 sep hs w
def Try.lays267_ren : Go.Shelf.Ren := ⟨fun | 267 => 107 | 314 => 109 | n => n, fun | 9 => 9 | 3 => 3 | 146 => 149 | 51 => 148 | 4 => 4 | 5 => 5 | 46 => 147 | n => n, fun | n => n⟩
theorem Try.lays267 : Go.Proofs.Lays.n267 Try.prog Try.lays267_ren := {
  mixed := by kernel_rfl
  f267 := Try.func107.trans (congrArg some (by kernel_rfl))
  f314 := Try.func109.trans (congrArg some (by kernel_rfl))
  t3 := Try.underlying3
  a3 := Try.isAgg3
  z3 := Try.sizeOf3
  v3 := Try.zeroValue3
  t4 := Try.underlying4
  a4 := Try.isAgg4
  z4 := Try.sizeOf4
  v4 := Try.zeroValue4
  t5 := Try.underlying5
  a5 := Try.isAgg5
  z5 := Try.sizeOf5
  v5 := Try.zeroValue5
  t9 := Try.underlying9
  a9 := Try.isAgg9
  z9 := Try.sizeOf9
  v9 := Try.zeroValue9
  t46 := Try.underlying147
  a46 := Try.isAgg147
  z46 := Try.sizeOf147
  v46 := Try.zeroValue147
  t51 := Try.underlying148
  a51 := Try.isAgg148
  z51 := Try.sizeOf148
  v51 := Try.zeroValue148
  t146 := Try.underlying149
  a146 := Try.isAgg149
  z146 := Try.sizeOf149
  v146 := Try.zeroValue149 }
open Go.RowKit Go.Lib in
theorem Try.bytealg_IndexRabinKarp (s sep : ByteArray) (h1 : 1 ≤ sep.size) (h2 : sep.size ≤ s.size) (hs : s.size < 4294967281) (w : World) :
    Calls Try.prog 107 #[.string s, .string sep] w fun e w' => e = .returned (.int .i64 (Lib.index s.data.toList sep.data.toList)) ∧ w' = w := Any.bytealg_IndexRabinKarp Try.lays267 s sep h1 h2 hs w
def Try.lays219_ren : Go.Shelf.Ren := ⟨fun | 219 => 103 | 217 => 104 | 225 => 105 | 224 => 106 | 267 => 107 | 266 => 108 | 314 => 109 | n => n, fun | 9 => 9 | 3 => 3 | 4 => 4 | 5 => 5 | 46 => 147 | 146 => 149 | 51 => 148 | n => n, fun | 1 => 0 | n => n⟩
theorem Try.lays219 : Go.Proofs.Lays.n219 Try.prog Try.lays219_ren := {
  mixed := by kernel_rfl
  f217 := Try.func104.trans (congrArg some (by kernel_rfl))
  f219 := Try.func103.trans (congrArg some (by kernel_rfl))
  f224 := Try.func106.trans (congrArg some (by kernel_rfl))
  f225 := Try.func105.trans (congrArg some (by kernel_rfl))
  f266 := Try.func108.trans (congrArg some (by kernel_rfl))
  f267 := Try.func107.trans (congrArg some (by kernel_rfl))
  f314 := Try.func109.trans (congrArg some (by kernel_rfl))
  t3 := Try.underlying3
  a3 := Try.isAgg3
  z3 := Try.sizeOf3
  v3 := Try.zeroValue3
  t4 := Try.underlying4
  a4 := Try.isAgg4
  z4 := Try.sizeOf4
  v4 := Try.zeroValue4
  t5 := Try.underlying5
  a5 := Try.isAgg5
  z5 := Try.sizeOf5
  v5 := Try.zeroValue5
  t9 := Try.underlying9
  a9 := Try.isAgg9
  z9 := Try.sizeOf9
  v9 := Try.zeroValue9
  t46 := Try.underlying147
  a46 := Try.isAgg147
  z46 := Try.sizeOf147
  v46 := Try.zeroValue147
  t51 := Try.underlying148
  a51 := Try.isAgg148
  z51 := Try.sizeOf148
  v51 := Try.zeroValue148
  t146 := Try.underlying149
  a146 := Try.isAgg149
  z146 := Try.sizeOf149
  v146 := Try.zeroValue149
  g1 := by kernel_rfl }
open Go.RowKit Go.Lib in
theorem Try.stringslite_Index_one (s : ByteArray) (c : UInt8) (w : World) :
    Calls Try.prog 103 #[.string s, .string ⟨#[c]⟩] w fun e w' => e = .returned (.int .i64 (Lib.indexByte s.data.toList c)) ∧ w' = w := Any.stringslite_Index_one Try.lays219 s c w
open Go.RowKit Go.Lib in
theorem Try.stringslite_Index (s sub : ByteArray) (m : Int) (w : World) (hs : s.size < 4294967281) (hm : w.cell? ⟨0, 0, none⟩ = some (.int .i64 m)) :
    Calls Try.prog 103 #[.string s, .string sub] w fun e w' => e = .returned (.int .i64 (Lib.index s.data.toList sub.data.toList)) ∧ w' = w := Any.stringslite_Index Try.lays219 s sub m w hs hm
def Try.lays143_ren : Go.Shelf.Ren := ⟨fun | 143 => 102 | 219 => 103 | 217 => 104 | 225 => 105 | 224 => 106 | 267 => 107 | 266 => 108 | 314 => 109 | n => n, fun | 9 => 9 | 3 => 3 | 4 => 4 | 5 => 5 | 46 => 147 | 146 => 149 | 51 => 148 | n => n, fun | 1 => 0 | n => n⟩
theorem Try.lays143 : Go.Proofs.Lays.n143 Try.prog Try.lays143_ren := {
  mixed := by kernel_rfl
  f143 := Try.func102.trans (congrArg some (by kernel_rfl))
  f217 := Try.func104.trans (congrArg some (by kernel_rfl))
  f219 := Try.func103.trans (congrArg some (by kernel_rfl))
  f224 := Try.func106.trans (congrArg some (by kernel_rfl))
  f225 := Try.func105.trans (congrArg some (by kernel_rfl))
  f266 := Try.func108.trans (congrArg some (by kernel_rfl))
  f267 := Try.func107.trans (congrArg some (by kernel_rfl))
  f314 := Try.func109.trans (congrArg some (by kernel_rfl))
  t3 := Try.underlying3
  a3 := Try.isAgg3
  z3 := Try.sizeOf3
  v3 := Try.zeroValue3
  t4 := Try.underlying4
  a4 := Try.isAgg4
  z4 := Try.sizeOf4
  v4 := Try.zeroValue4
  t5 := Try.underlying5
  a5 := Try.isAgg5
  z5 := Try.sizeOf5
  v5 := Try.zeroValue5
  t9 := Try.underlying9
  a9 := Try.isAgg9
  z9 := Try.sizeOf9
  v9 := Try.zeroValue9
  t46 := Try.underlying147
  a46 := Try.isAgg147
  z46 := Try.sizeOf147
  v46 := Try.zeroValue147
  t51 := Try.underlying148
  a51 := Try.isAgg148
  z51 := Try.sizeOf148
  v51 := Try.zeroValue148
  t146 := Try.underlying149
  a146 := Try.isAgg149
  z146 := Try.sizeOf149
  v146 := Try.zeroValue149
  g1 := by kernel_rfl }
open Go.RowKit Go.Lib in
theorem Try.strings_Index_one (s : ByteArray) (c : UInt8) (w : World) :
    Calls Try.prog 102 #[.string s, .string ⟨#[c]⟩] w fun e w' => e = .returned (.int .i64 (Lib.indexByte s.data.toList c)) ∧ w' = w := Any.strings_Index_one Try.lays143 s c w
open Go.RowKit Go.Lib in
theorem Try.strings_Index (s sub : ByteArray) (m : Int) (w : World) (hs : s.size < 4294967281) (hm : w.cell? ⟨0, 0, none⟩ = some (.int .i64 m)) :
    Calls Try.prog 102 #[.string s, .string sub] w fun e w' => e = .returned (.int .i64 (Lib.index s.data.toList sub.data.toList)) ∧ w' = w := Any.strings_Index Try.lays143 s sub m w hs hm
def Try.lays144_ren : Go.Shelf.Ren := ⟨fun | 144 => 101 | 143 => 102 | 219 => 103 | 217 => 104 | 225 => 105 | 224 => 106 | 267 => 107 | 266 => 108 | 314 => 109 | n => n, fun | 9 => 9 | 4 => 4 | 3 => 3 | 5 => 5 | 46 => 147 | 146 => 149 | 51 => 148 | n => n, fun | 1 => 0 | n => n⟩
theorem Try.lays144 : Go.Proofs.Lays.n144 Try.prog Try.lays144_ren := {
  mixed := by kernel_rfl
  f143 := Try.func102.trans (congrArg some (by kernel_rfl))
  f144 := Try.func101.trans (congrArg some (by kernel_rfl))
  f217 := Try.func104.trans (congrArg some (by kernel_rfl))
  f219 := Try.func103.trans (congrArg some (by kernel_rfl))
  f224 := Try.func106.trans (congrArg some (by kernel_rfl))
  f225 := Try.func105.trans (congrArg some (by kernel_rfl))
  f266 := Try.func108.trans (congrArg some (by kernel_rfl))
  f267 := Try.func107.trans (congrArg some (by kernel_rfl))
  f314 := Try.func109.trans (congrArg some (by kernel_rfl))
  t3 := Try.underlying3
  a3 := Try.isAgg3
  z3 := Try.sizeOf3
  v3 := Try.zeroValue3
  t4 := Try.underlying4
  a4 := Try.isAgg4
  z4 := Try.sizeOf4
  v4 := Try.zeroValue4
  t5 := Try.underlying5
  a5 := Try.isAgg5
  z5 := Try.sizeOf5
  v5 := Try.zeroValue5
  t9 := Try.underlying9
  a9 := Try.isAgg9
  z9 := Try.sizeOf9
  v9 := Try.zeroValue9
  t46 := Try.underlying147
  a46 := Try.isAgg147
  z46 := Try.sizeOf147
  v46 := Try.zeroValue147
  t51 := Try.underlying148
  a51 := Try.isAgg148
  z51 := Try.sizeOf148
  v51 := Try.zeroValue148
  t146 := Try.underlying149
  a146 := Try.isAgg149
  z146 := Try.sizeOf149
  v146 := Try.zeroValue149
  g1 := by kernel_rfl }
open Go.RowKit Go.Lib in
theorem Try.strings_Contains_one (s : ByteArray) (c : UInt8) (w : World) :
    Calls Try.prog 101 #[.string s, .string ⟨#[c]⟩] w fun e w' => e = .returned (.bool (decide (0 ≤ Lib.indexByte s.data.toList c))) ∧ w' = w := Any.strings_Contains_one Try.lays144 s c w
open Go.RowKit Go.Lib in
theorem Try.strings_Contains (s sub : ByteArray) (m : Int) (w : World) (hs : s.size < 4294967281) (hm : w.cell? ⟨0, 0, none⟩ = some (.int .i64 m)) :
    Calls Try.prog 101 #[.string s, .string sub] w fun e w' => e = .returned (.bool (Lib.contains s.data.toList sub.data.toList)) ∧ w' = w := Any.strings_Contains Try.lays144 s sub m w hs hm
def Try.laysM219_ren : Go.Shelf.Ren := ⟨fun | 219 => 103 | 217 => 104 | 225 => 105 | 224 => 106 | 267 => 107 | 266 => 108 | 314 => 109 | n => n, fun | 9 => 9 | 3 => 3 | 4 => 4 | 5 => 5 | 46 => 147 | 146 => 149 | 51 => 148 | n => n, fun | 1 => 0 | n => n⟩
theorem Try.laysM219 : Go.Proofs.LaysM.n219 Try.prog Try.laysM219_ren := {
  mixed := by kernel_rfl
  f217 := Try.func104.trans (congrArg some (by kernel_rfl))
  f219 := Try.func103.trans (congrArg some (by kernel_rfl))
  f224 := Try.func106.trans (congrArg some (by kernel_rfl))
  f225 := Try.func105.trans (congrArg some (by kernel_rfl))
  f266 := Try.func108.trans (congrArg some (by kernel_rfl))
  f267 := Try.func107.trans (congrArg some (by kernel_rfl))
  f314 := Try.func109.trans (congrArg some (by kernel_rfl))
  t3 := Try.underlying3
  a3 := Try.isAgg3
  z3 := Try.sizeOf3
  v3 := Try.zeroValue3
  t4 := Try.underlying4
  a4 := Try.isAgg4
  z4 := Try.sizeOf4
  v4 := Try.zeroValue4
  t5 := Try.underlying5
  a5 := Try.isAgg5
  z5 := Try.sizeOf5
  v5 := Try.zeroValue5
  t9 := Try.underlying9
  a9 := Try.isAgg9
  z9 := Try.sizeOf9
  v9 := Try.zeroValue9
  t46 := Try.underlying147
  a46 := Try.isAgg147
  z46 := Try.sizeOf147
  v46 := Try.zeroValue147
  t51 := Try.underlying148
  a51 := Try.isAgg148
  z51 := Try.sizeOf148
  v51 := Try.zeroValue148
  t146 := Try.underlying149
  a146 := Try.isAgg149
  z146 := Try.sizeOf149
  v146 := Try.zeroValue149
  g1 := by kernel_rfl
  i3 := by kernel_rfl
  i4 := by kernel_rfl
  i5 := by kernel_rfl
  i9 := by kernel_rfl
  i46 := by kernel_rfl
  i51 := by kernel_rfl
  i146 := by kernel_rfl
  m1 := by kernel_rfl
  s1_3 := fun w h => Go.Proofs.cell_of_shapedOpen_int (zero := #[.int .i64 0]) (t := 3) h (of_decide_eq_true (by kernel_rfl)) (by kernel_rfl) rfl (by kernel_rfl) (by kernel_rfl) Try.underlying3 }
open Go.RowKit Go.Lib in
theorem Try.stringslite_Index_shaped (s sub : ByteArray) (w : World) (h : w.ShapedOpen Try.prog) (hs : s.size < 4294967281) :
    Calls Try.prog 103 #[.string s, .string sub] w fun e w' => e = .returned (.int .i64 (Lib.index s.data.toList sub.data.toList)) ∧ w' = w := Any.stringslite_Index_shaped Try.laysM219 s sub w h hs
def Try.laysM143_ren : Go.Shelf.Ren := ⟨fun | 143 => 102 | 219 => 103 | 217 => 104 | 225 => 105 | 224 => 106 | 267 => 107 | 266 => 108 | 314 => 109 | n => n, fun | 9 => 9 | 3 => 3 | 4 => 4 | 5 => 5 | 46 => 147 | 146 => 149 | 51 => 148 | n => n, fun | 1 => 0 | n => n⟩
theorem Try.laysM143 : Go.Proofs.LaysM.n143 Try.prog Try.laysM143_ren := {
  mixed := by kernel_rfl
  f143 := Try.func102.trans (congrArg some (by kernel_rfl))
  f217 := Try.func104.trans (congrArg some (by kernel_rfl))
  f219 := Try.func103.trans (congrArg some (by kernel_rfl))
  f224 := Try.func106.trans (congrArg some (by kernel_rfl))
  f225 := Try.func105.trans (congrArg some (by kernel_rfl))
  f266 := Try.func108.trans (congrArg some (by kernel_rfl))
  f267 := Try.func107.trans (congrArg some (by kernel_rfl))
  f314 := Try.func109.trans (congrArg some (by kernel_rfl))
  t3 := Try.underlying3
  a3 := Try.isAgg3
  z3 := Try.sizeOf3
  v3 := Try.zeroValue3
  t4 := Try.underlying4
  a4 := Try.isAgg4
  z4 := Try.sizeOf4
  v4 := Try.zeroValue4
  t5 := Try.underlying5
  a5 := Try.isAgg5
  z5 := Try.sizeOf5
  v5 := Try.zeroValue5
  t9 := Try.underlying9
  a9 := Try.isAgg9
  z9 := Try.sizeOf9
  v9 := Try.zeroValue9
  t46 := Try.underlying147
  a46 := Try.isAgg147
  z46 := Try.sizeOf147
  v46 := Try.zeroValue147
  t51 := Try.underlying148
  a51 := Try.isAgg148
  z51 := Try.sizeOf148
  v51 := Try.zeroValue148
  t146 := Try.underlying149
  a146 := Try.isAgg149
  z146 := Try.sizeOf149
  v146 := Try.zeroValue149
  g1 := by kernel_rfl
  i3 := by kernel_rfl
  i4 := by kernel_rfl
  i5 := by kernel_rfl
  i9 := by kernel_rfl
  i46 := by kernel_rfl
  i51 := by kernel_rfl
  i146 := by kernel_rfl
  m1 := by kernel_rfl
  s1_3 := fun w h => Go.Proofs.cell_of_shapedOpen_int (zero := #[.int .i64 0]) (t := 3) h (of_decide_eq_true (by kernel_rfl)) (by kernel_rfl) rfl (by kernel_rfl) (by kernel_rfl) Try.underlying3 }
open Go.RowKit Go.Lib in
theorem Try.strings_Index_shaped (s sub : ByteArray) (w : World) (h : w.ShapedOpen Try.prog) (hs : s.size < 4294967281) :
    Calls Try.prog 102 #[.string s, .string sub] w fun e w' => e = .returned (.int .i64 (Lib.index s.data.toList sub.data.toList)) ∧ w' = w := Any.strings_Index_shaped Try.laysM143 s sub w h hs
def Try.laysM144_ren : Go.Shelf.Ren := ⟨fun | 144 => 101 | 143 => 102 | 219 => 103 | 217 => 104 | 225 => 105 | 224 => 106 | 267 => 107 | 266 => 108 | 314 => 109 | n => n, fun | 9 => 9 | 4 => 4 | 3 => 3 | 5 => 5 | 46 => 147 | 146 => 149 | 51 => 148 | n => n, fun | 1 => 0 | n => n⟩
theorem Try.laysM144 : Go.Proofs.LaysM.n144 Try.prog Try.laysM144_ren := {
  mixed := by kernel_rfl
  f143 := Try.func102.trans (congrArg some (by kernel_rfl))
  f144 := Try.func101.trans (congrArg some (by kernel_rfl))
  f217 := Try.func104.trans (congrArg some (by kernel_rfl))
  f219 := Try.func103.trans (congrArg some (by kernel_rfl))
  f224 := Try.func106.trans (congrArg some (by kernel_rfl))
  f225 := Try.func105.trans (congrArg some (by kernel_rfl))
  f266 := Try.func108.trans (congrArg some (by kernel_rfl))
  f267 := Try.func107.trans (congrArg some (by kernel_rfl))
  f314 := Try.func109.trans (congrArg some (by kernel_rfl))
  t3 := Try.underlying3
  a3 := Try.isAgg3
  z3 := Try.sizeOf3
  v3 := Try.zeroValue3
  t4 := Try.underlying4
  a4 := Try.isAgg4
  z4 := Try.sizeOf4
  v4 := Try.zeroValue4
  t5 := Try.underlying5
  a5 := Try.isAgg5
  z5 := Try.sizeOf5
  v5 := Try.zeroValue5
  t9 := Try.underlying9
  a9 := Try.isAgg9
  z9 := Try.sizeOf9
  v9 := Try.zeroValue9
  t46 := Try.underlying147
  a46 := Try.isAgg147
  z46 := Try.sizeOf147
  v46 := Try.zeroValue147
  t51 := Try.underlying148
  a51 := Try.isAgg148
  z51 := Try.sizeOf148
  v51 := Try.zeroValue148
  t146 := Try.underlying149
  a146 := Try.isAgg149
  z146 := Try.sizeOf149
  v146 := Try.zeroValue149
  g1 := by kernel_rfl
  i3 := by kernel_rfl
  i4 := by kernel_rfl
  i5 := by kernel_rfl
  i9 := by kernel_rfl
  i46 := by kernel_rfl
  i51 := by kernel_rfl
  i146 := by kernel_rfl
  m1 := by kernel_rfl
  s1_3 := fun w h => Go.Proofs.cell_of_shapedOpen_int (zero := #[.int .i64 0]) (t := 3) h (of_decide_eq_true (by kernel_rfl)) (by kernel_rfl) rfl (by kernel_rfl) (by kernel_rfl) Try.underlying3 }
open Go.RowKit Go.Lib in
theorem Try.strings_Contains_shaped (s sub : ByteArray) (w : World) (h : w.ShapedOpen Try.prog) (hs : s.size < 4294967281) :
    Calls Try.prog 101 #[.string s, .string sub] w fun e w' => e = .returned (.bool (Lib.contains s.data.toList sub.data.toList)) ∧ w' = w := Any.strings_Contains_shaped Try.laysM144 s sub w h hs
end Go.Proofs
namespace Go.Proofs.Ytdnjfmgldkommaa
open Go.Sx
section
variable {ops : Array Oper} {w0 : World} {Mod : List Nat} {n : Nat} {F : FL} {M : ML} {Q : Exit → Act → World → Prop}
theorem Yd (id : Nat) (l : List Nat) (c : Ch) (hok : treeOK ops l c = true) (h : SK w0 Mod n (wpI Try.prog ops (bare l) (wpC Try.prog ops c (Q .normal))) F M) : SK w0 Mod n ((Code.region id ops true).wp Try.prog Q) F M := SK.regionD l c mixed hok h
theorem Yi (id : Nat) (l : List Ent) (hok : ordOK ops l = true) (h : SK w0 Mod n (wpI Try.prog ops l (Q .normal)) F M) : SK w0 Mod n ((Code.region id ops true).wp Try.prog Q) F M := SK.regionI l mixed hok h
end
@[reducible] def o18_2 : List Nat := [0, 1, 2, 4, 5, 6, 3, 7, 8]
@[reducible] def t18_2 : Ch := .or (.eff (9, []) [10, 11, 12, 13, 14] (.eff (15, [3, 7, 8]) [16] (.eff (17, []) [18, 19] (.fin)))) (.eff (15, [3, 7, 8]) [] (.eff (9, []) [10, 11, 12, 13, 14, 16] (.eff (17, []) [18, 19] (.fin))))
@[reducible] def o18_3 : List Nat := [0, 1, 2, 4, 5, 6, 3, 7, 8]
@[reducible] def t18_3 : Ch := .or (.eff (9, []) [10, 11, 12, 13, 14] (.eff (15, [3, 7, 8]) [16] (.eff (17, []) [18, 19] (.fin)))) (.eff (15, [3, 7, 8]) [] (.eff (9, []) [10, 11, 12, 13, 14, 16] (.eff (17, []) [18, 19] (.fin))))
@[reducible] def i18_4 : List Ent := [(0, []), (1, []), (2, []), (3, []), (4, []), (5, []), (6, []), (7, []), (8, []), (9, []), (10, []), (11, []), (12, []), (13, []), (14, []), (15, []), (16, []), (17, []), (18, []), (19, []), (20, []), (21, []), (22, []), (23, []), (24, []), (25, []), (26, []), (27, []), (28, []), (29, [])]
@[reducible] def i20_1 : List Ent := [(3, []), (0, []), (1, []), (4, []), (2, [0, 4]), (5, []), (6, []), (7, [])]
@[reducible] def i20_5 : List Ent := [(0, []), (1, []), (2, []), (4, []), (5, []), (6, []), (8, []), (9, []), (10, []), (3, []), (12, []), (7, []), (11, []), (13, [11]), (14, []), (15, [])]
@[reducible] def i23_6 : List Ent := [(0, []), (1, []), (2, []), (4, []), (5, []), (6, []), (3, []), (7, []), (8, [])]
@[reducible] def i24_6 : List Ent := [(0, []), (2, []), (5, []), (7, []), (1, []), (3, []), (4, []), (6, []), (8, []), (9, []), (10, [])]
@[reducible] def i24_11 : List Ent := [(0, []), (2, []), (5, []), (7, []), (1, []), (3, []), (4, []), (6, []), (8, []), (9, []), (10, [])]
@[reducible] def i28_6 : List Ent := [(0, []), (2, []), (4, []), (6, []), (1, []), (3, []), (5, []), (7, [1, 3, 5]), (8, []), (9, [3, 5]), (10, []), (11, [5]), (12, []), (13, [])]
@[reducible] def i28_17 : List Ent := [(0, []), (2, []), (1, []), (4, []), (3, []), (5, [3]), (6, []), (7, [])]
@[reducible] def i28_22 : List Ent := [(0, []), (2, []), (6, []), (8, []), (1, []), (3, []), (4, []), (5, []), (12, []), (7, []), (9, []), (10, []), (11, []), (13, [])]
@[reducible] def i28_33 : List Ent := [(0, []), (2, []), (1, []), (3, [])]
@[reducible] def i28_35 : List Ent := [(0, []), (2, []), (1, []), (3, [])]
@[reducible] def i28_43 : List Ent := [(0, []), (2, []), (1, []), (3, [])]
@[reducible] def i28_47 : List Ent := [(0, []), (2, []), (1, []), (3, [])]
@[reducible] def i28_48 : List Ent := [(0, []), (1, []), (2, []), (3, []), (4, []), (5, []), (6, []), (7, []), (8, []), (9, []), (10, []), (11, []), (12, []), (13, []), (14, []), (15, []), (16, []), (18, []), (20, []), (17, []), (19, []), (21, []), (22, []), (23, []), (24, []), (25, []), (26, []), (27, [])]
@[reducible] def i28_49 : List Ent := [(0, []), (2, []), (1, []), (3, [])]
@[reducible] def i28_50 : List Ent := [(1, []), (3, []), (0, []), (2, []), (4, []), (5, []), (6, []), (7, []), (8, [])]
@[reducible] def i28_51 : List Ent := [(1, []), (3, []), (6, []), (8, []), (9, []), (2, []), (4, []), (7, []), (10, []), (0, [2, 7]), (5, [7]), (11, []), (12, []), (13, [])]
@[reducible] def i37_18 : List Ent := [(1, []), (2, []), (3, []), (0, []), (4, []), (5, []), (6, []), (7, []), (8, []), (9, []), (10, [])]
@[reducible] def i37_27 : List Ent := [(0, []), (1, []), (2, []), (4, []), (5, []), (6, []), (3, []), (7, []), (8, [])]
@[reducible] def i38_1 : List Ent := [(3, []), (0, []), (1, []), (4, []), (2, [0, 4]), (5, []), (6, []), (7, [])]
@[reducible] def i38_5 : List Ent := [(0, []), (1, []), (2, []), (4, []), (5, []), (6, []), (8, []), (9, []), (10, []), (3, []), (12, []), (7, []), (11, []), (13, [11]), (14, []), (15, [])]
@[reducible] def i39_6 : List Ent := [(0, []), (1, []), (2, []), (4, []), (5, []), (6, []), (3, []), (7, []), (8, [])]
@[reducible] def i42_1 : List Ent := [(0, []), (3, []), (1, []), (4, []), (2, [4]), (6, []), (5, []), (7, []), (8, []), (9, [])]
@[reducible] def o44_4 : List Nat := [0, 1, 2, 3, 4, 5, 7, 11, 13, 15, 16, 6, 8, 9, 12, 14]
@[reducible] def t44_4 : Ch := .or (.eff (10, [6, 12, 14]) [] (.eff (17, [6, 8, 12, 14]) [18, 19] (.eff (20, [8, 12, 14]) [21, 22] (.eff (23, [12, 14]) [24, 25] (.eff (26, [14]) [27, 28] (.eff (29, []) [] (.fin))))))) (.eff (17, [6, 8, 12, 14]) [18, 19] (.or (.eff (10, [6, 12, 14]) [] (.eff (20, [8, 12, 14]) [21, 22] (.eff (23, [12, 14]) [24, 25] (.eff (26, [14]) [27, 28] (.eff (29, []) [] (.fin)))))) (.eff (20, [8, 12, 14]) [] (.eff (10, [6, 12, 14]) [21, 22] (.eff (23, [12, 14]) [24, 25] (.eff (26, [14]) [27, 28] (.eff (29, []) [] (.fin))))))))
@[reducible] def i44_10 : List Ent := [(0, []), (1, []), (2, []), (3, []), (5, []), (7, []), (4, []), (6, []), (8, []), (9, []), (10, [4]), (11, []), (12, []), (13, []), (14, [])]
@[reducible] def i44_15 : List Ent := [(0, []), (1, []), (2, []), (4, []), (3, []), (6, []), (7, []), (5, []), (8, [5]), (9, []), (10, []), (11, [])]
@[reducible] def i44_18 : List Ent := [(0, []), (1, []), (2, []), (3, []), (4, []), (5, []), (6, []), (7, []), (8, []), (9, []), (10, []), (11, []), (13, []), (16, []), (17, []), (18, []), (19, []), (21, []), (12, []), (14, []), (15, []), (20, []), (22, []), (23, []), (24, []), (25, []), (26, [])]
@[reducible] def i51_10 : List Ent := [(0, []), (1, []), (2, []), (3, []), (7, []), (4, []), (5, []), (6, []), (8, [])]
@[reducible] def i55_1 : List Ent := [(0, []), (1, []), (2, []), (3, []), (5, []), (6, []), (7, []), (4, []), (8, []), (9, []), (10, []), (11, []), (12, []), (13, []), (14, []), (15, []), (16, [])]
@[reducible] def i55_2 : List Ent := [(0, []), (1, []), (2, []), (3, []), (4, []), (5, []), (6, [4]), (7, []), (8, []), (9, []), (10, [])]
@[reducible] def o56_0 : List Nat := [0, 1, 2, 3, 7, 8, 9, 10, 4, 5, 11, 12]
@[reducible] def t56_0 : Ch := .or (.eff (6, [11]) [14] (.eff (13, [4]) [15] (.fin))) (.eff (13, [4]) [] (.eff (6, [11]) [14, 15] (.fin)))
@[reducible] def i56_4 : List Ent := [(0, []), (1, []), (2, []), (3, []), (4, []), (7, []), (5, []), (6, []), (10, []), (8, []), (9, []), (11, [8]), (12, []), (13, [])]
@[reducible] def i56_8 : List Ent := [(0, []), (1, []), (2, []), (3, []), (4, []), (6, []), (7, []), (5, []), (8, []), (9, []), (10, []), (11, [])]
@[reducible] def i56_10 : List Ent := [(0, []), (1, []), (2, []), (3, []), (4, []), (6, []), (7, []), (8, []), (9, []), (5, []), (10, []), (11, []), (12, []), (13, []), (14, []), (15, []), (16, [])]
@[reducible] def i58_8 : List Ent := [(0, []), (1, []), (3, []), (6, []), (7, []), (8, []), (10, []), (2, []), (4, []), (5, []), (9, []), (11, []), (12, []), (13, []), (14, [])]
@[reducible] def i61_5 : List Ent := [(0, []), (1, []), (4, []), (6, []), (2, []), (5, []), (3, [5]), (7, []), (8, [])]
@[reducible] def i61_8 : List Ent := [(0, []), (1, []), (2, []), (3, []), (4, []), (6, []), (7, []), (8, []), (9, []), (11, []), (12, []), (5, []), (10, []), (13, []), (14, [])]
@[reducible] def i63_7 : List Ent := [(2, []), (0, []), (4, []), (5, []), (1, []), (3, []), (6, [1, 3]), (7, []), (8, []), (9, [])]
@[reducible] def i63_10 : List Ent := [(2, []), (0, []), (4, []), (5, []), (1, []), (3, []), (6, [1, 3]), (7, []), (8, []), (9, [])]
@[reducible] def i63_12 : List Ent := [(2, []), (0, []), (4, []), (5, []), (1, []), (3, []), (6, [1, 3]), (7, []), (8, []), (9, [])]
@[reducible] def i63_21 : List Ent := [(2, []), (0, []), (4, []), (5, []), (1, []), (3, []), (6, [1, 3]), (7, []), (8, []), (9, [])]
@[reducible] def i63_22 : List Ent := [(0, []), (1, []), (2, []), (3, []), (4, []), (5, []), (6, []), (7, []), (8, []), (9, []), (10, []), (11, []), (12, []), (13, []), (14, []), (16, []), (15, []), (17, []), (18, []), (19, []), (20, []), (21, [])]
@[reducible] def i63_23 : List Ent := [(0, []), (1, []), (3, []), (2, []), (4, []), (5, []), (6, [])]
@[reducible] def i63_25 : List Ent := [(2, []), (0, []), (4, []), (5, []), (1, []), (3, []), (6, [1, 3]), (7, []), (8, []), (9, [])]
@[reducible] def i66_4 : List Ent := [(1, []), (3, []), (7, []), (0, []), (2, []), (4, []), (5, []), (6, []), (8, []), (9, []), (10, []), (11, []), (12, []), (13, []), (14, []), (15, [])]
@[reducible] def o67_1 : List Nat := [0, 1, 2, 4, 5, 6, 3, 7, 8]
@[reducible] def t67_1 : Ch := .or (.eff (9, []) [10, 11, 12] (.eff (13, [3, 7, 8]) [] (.eff (14, []) [15] (.fin)))) (.eff (13, [3, 7, 8]) [] (.eff (9, []) [10, 11, 12] (.eff (14, []) [15] (.fin))))
@[reducible] def i67_4 : List Ent := [(0, []), (1, []), (2, []), (3, []), (4, []), (5, []), (6, [4]), (7, []), (8, []), (9, []), (10, [])]
@[reducible] def i68_10 : List Ent := [(0, []), (1, []), (2, []), (3, []), (4, []), (6, []), (7, []), (8, []), (9, []), (5, []), (10, []), (11, []), (12, []), (13, []), (14, []), (15, []), (16, [])]
@[reducible] def i73_6 : List Ent := [(0, []), (1, []), (2, []), (3, []), (4, []), (7, []), (10, []), (12, []), (5, []), (6, []), (8, []), (9, []), (11, []), (13, []), (14, [])]
@[reducible] def i73_8 : List Ent := [(0, []), (1, []), (2, []), (3, []), (4, []), (6, []), (7, []), (8, []), (9, []), (11, []), (12, []), (5, []), (10, []), (13, []), (14, [])]
@[reducible] def i75_6 : List Ent := [(0, []), (1, []), (3, []), (4, []), (5, []), (7, []), (2, []), (6, []), (8, []), (9, []), (10, []), (11, [])]
@[reducible] def i75_7 : List Ent := [(0, []), (1, []), (3, []), (4, []), (5, []), (7, []), (2, []), (6, []), (8, []), (9, []), (10, []), (11, [])]
@[reducible] def i75_13 : List Ent := [(0, []), (1, []), (4, []), (6, []), (2, []), (5, []), (7, []), (3, [5, 7]), (8, []), (9, [])]
@[reducible] def i75_15 : List Ent := [(0, []), (1, []), (2, []), (4, []), (3, []), (5, []), (6, []), (7, [])]
@[reducible] def i75_17 : List Ent := [(0, []), (1, []), (3, []), (4, []), (5, []), (6, []), (8, []), (2, []), (7, []), (9, []), (10, []), (11, []), (12, []), (13, [])]
@[reducible] def i77_8 : List Ent := [(0, []), (1, []), (2, []), (3, []), (5, []), (8, []), (9, []), (10, []), (11, []), (13, []), (4, []), (6, []), (7, []), (12, []), (14, []), (15, []), (16, [12, 15]), (17, []), (18, [])]
@[reducible] def i78_2 : List Ent := [(0, []), (1, []), (2, []), (3, []), (4, []), (5, []), (6, [4]), (7, []), (8, []), (9, []), (10, [])]
@[reducible] def i81_1 : List Ent := [(0, []), (1, []), (2, []), (3, []), (6, []), (4, []), (5, []), (7, []), (8, []), (9, [])]
@[reducible] def i86_5 : List Ent := [(0, []), (1, []), (2, []), (3, []), (4, []), (5, []), (6, []), (7, [])]
@[reducible] def i88_8 : List Ent := [(0, []), (1, []), (2, []), (3, []), (4, []), (5, []), (7, []), (8, []), (9, []), (10, []), (6, []), (11, []), (12, []), (13, []), (14, [])]
@[reducible] def i89_8 : List Ent := [(0, []), (1, []), (3, []), (4, []), (5, []), (7, []), (2, []), (6, []), (8, []), (9, []), (10, [])]
@[reducible] def i89_9 : List Ent := [(0, []), (1, []), (3, []), (4, []), (5, []), (7, []), (2, []), (6, []), (8, []), (9, []), (10, []), (11, [])]
@[reducible] def i89_11 : List Ent := [(0, []), (1, []), (2, []), (3, []), (6, []), (4, []), (5, []), (7, []), (8, []), (9, [])]
@[reducible] def i89_18 : List Ent := [(0, []), (1, []), (2, []), (4, []), (3, []), (5, []), (6, []), (7, [])]
@[reducible] def i89_20 : List Ent := [(0, []), (1, []), (3, []), (4, []), (5, []), (6, []), (8, []), (2, []), (7, []), (9, []), (10, []), (11, []), (12, [])]
@[reducible] def i90_4 : List Ent := [(0, []), (1, []), (2, []), (3, []), (5, []), (8, []), (9, []), (10, []), (11, []), (13, []), (4, []), (6, []), (7, []), (12, []), (14, []), (15, []), (16, [12, 15]), (17, []), (18, [])]
@[reducible] def i91_2 : List Ent := [(0, []), (1, []), (2, []), (3, []), (4, []), (5, []), (6, [4]), (7, []), (8, []), (9, []), (10, [])]
end Go.Proofs.Ytdnjfmgldkommaa
