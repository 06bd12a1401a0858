/- Parts of the proof of ValueZeros: EAlive150, EAlive151, EAlive152, EAlive153, EAlive154, EAlive155, Ed, Op, Ot. No condition of its own. -/
import Derived.Test.YtcpkdjikembpnaaProg
import Derived.ProofKit
import Derived.Lib.SmallJoins
import Derived.OpenShut
import Derived.ChangeOld
import Derived.SliceStrings
import Derived.Deep.SlicePairs
import Derived.Test.YtcpkdjikembpnaaVzaa
import Derived.Test.YtcpkdjikembpnaaVzai
import Derived.Test.YtcpkdjikembpnaaVzbd
set_option linter.unusedVariables false
set_option linter.unusedSimpArgs false
set_option maxRecDepth 100000
set_option maxHeartbeats 4000000
namespace Go.Proofs.Ytcpkdjikembpnaa.alive15Parts
open Go.Proofs.Ytcpkdjikembpnaa Go.Proofs.Ytcpkdjikembpnaa.Ce
open Go.RowKit
noncomputable def mayWrite : FuncId → Bool := fun f => Nat.beq f 57
noncomputable def known : List (FuncId × Value) := []
noncomputable def body : Code := app (bodyOf Try.prog 25) .skip
noncomputable def fs : CallE := tab (acall Try.prog mayWrite 2000 40) known
noncomputable def st0 : St := ⟨List.replicate (ntOf Try.prog 25) undef, [], 0⟩
noncomputable def st1 : St := ⟨[(.bool false), (.pointer (some ⟨7, 0, none⟩)), (.slice (some ⟨6, 0, none⟩) 16 16), (.int .i64 0), undef, undef, undef, undef, undef, undef, undef, (.tuple ⟨[(.agg ⟨[(.int .u64 65536), (.slice (some ⟨5, 0, none⟩) 8 8)]⟩), (.slice (some ⟨6, 0, none⟩) 16 16), (.int .i64 0)]⟩), (.slice (some ⟨1, 0, none⟩) 7 7), (.agg ⟨[(.int .u64 65536), (.slice none 0 0)]⟩), (.agg ⟨[(.int .u8 5), (.int .i64 0), (.string ⟨⟨[]⟩⟩), (.slice (some ⟨4, 0, none⟩) 2 2), (.bool false)]⟩), (.tuple ⟨[(.agg ⟨[(.int .u64 65536), (.slice (some ⟨5, 0, none⟩) 8 8)]⟩), (.slice (some ⟨6, 0, none⟩) 16 16), (.int .i64 0)]⟩), (.agg ⟨[(.int .u64 65536), (.slice (some ⟨5, 0, none⟩) 8 8)]⟩), (.slice (some ⟨6, 0, none⟩) 16 16), (.int .i64 0), undef, undef, undef, undef, undef, undef, undef, undef, undef, undef, undef, undef, undef, undef, undef, undef, undef, undef, undef, undef, undef, undef, undef, undef, undef, undef, undef, undef, undef, undef, undef, undef, undef, undef, undef, undef, undef, undef, undef, undef, undef, undef, undef, undef, undef, undef, undef, undef, undef, undef, undef, undef, undef, undef, undef, undef, undef, undef, undef, undef, undef, undef, undef, undef, undef, undef, undef, undef, undef, undef, undef, undef, undef, undef, undef, undef, undef, undef, undef, undef, undef, undef], [some (.inl (71, false, [(.string ⟨⟨[97]⟩⟩), (.int .i64 2), (.string ⟨⟨[112]⟩⟩), (.int .i64 1)])), some (.inl (64, false, [(.int .u8 2), (.int .i64 0), (.int .i64 0), (.slice none 0 0), (.int .u8 4), (.int .i64 0), (.int .i64 0), (.slice none 0 0), (.int .u8 1), (.int .i64 0), (.int .i64 0), (.slice none 0 0), (.int .u8 5), (.int .i64 0), (.int .i64 0), (.slice (some ⟨0, 0, none⟩) 2 2), (.int .u8 7), (.int .i64 2), (.int .i64 0), (.slice none 0 0), (.int .u8 3), (.int .i64 0), (.int .i64 0), (.slice none 0 0), (.int .u8 4), (.int .i64 6), (.int .i64 0), (.slice none 0 0)])), some (.inl (32, false, [(.int .u8 5), (.int .i64 0), (.string ⟨⟨[]⟩⟩), (.slice (some ⟨4, 0, none⟩) 2 2), (.bool false)])), some (.inl (32, false, [(.int .u8 2), (.int .i64 7), (.string ⟨⟨[]⟩⟩), (.slice none 0 0), (.bool false)])), some (.inl (32, false, [(.int .u8 1), (.int .i64 1), (.string ⟨⟨[]⟩⟩), (.slice none 0 0), (.bool false), (.int .u8 4), (.int .i64 0), (.string ⟨⟨[]⟩⟩), (.slice (some ⟨3, 0, none⟩) 1 1), (.bool false)])), some (.inl (5, false, (bz [7, 0, 0, 0, 0, 0, 0, 0]))), some (.inl (5, false, (bz [1, 0, 0, 0, 0, 0, 0, 0, 0, 0, 1, 0, 0, 0, 0, 0]))), some (.inl (29, false, [(.int .u64 65536), (.slice (some ⟨5, 0, none⟩) 8 8)]))], 8⟩
noncomputable def st2 : St := ⟨[(.bool false), (.pointer (some ⟨7, 0, none⟩)), (.slice (some ⟨6, 0, none⟩) 16 16), (.int .i64 0), (.pointer (some ⟨9, 0, none⟩)), (.int .u64 65544), (.int .i64 0), (.pointer (some ⟨28, 0, none⟩)), (.int .i64 0), undef, undef, (.tuple ⟨[(.agg ⟨[(.int .u64 65536), (.slice (some ⟨5, 0, none⟩) 8 8)]⟩), (.slice (some ⟨6, 0, none⟩) 16 16), (.int .i64 0)]⟩), (.slice (some ⟨1, 0, none⟩) 7 7), (.agg ⟨[(.int .u64 65536), (.slice none 0 0)]⟩), (.agg ⟨[(.int .u8 5), (.int .i64 0), (.string ⟨⟨[]⟩⟩), (.slice (some ⟨4, 0, none⟩) 2 2), (.bool false)]⟩), (.tuple ⟨[(.agg ⟨[(.int .u64 65536), (.slice (some ⟨5, 0, none⟩) 8 8)]⟩), (.slice (some ⟨6, 0, none⟩) 16 16), (.int .i64 0)]⟩), (.agg ⟨[(.int .u64 65536), (.slice (some ⟨5, 0, none⟩) 8 8)]⟩), (.slice (some ⟨6, 0, none⟩) 16 16), (.int .i64 0), (.tuple ⟨[(.agg ⟨[(.int .u64 65536), (.slice (some ⟨8, 0, none⟩) 24 24)]⟩), (.int .u64 65544), (.int .i64 0)]⟩), (.agg ⟨[(.int .u64 65536), (.slice (some ⟨5, 0, none⟩) 8 8)]⟩), (.slice (some ⟨6, 0, none⟩) 16 16), (.tuple ⟨[(.agg ⟨[(.int .u64 65536), (.slice (some ⟨8, 0, none⟩) 24 24)]⟩), (.int .u64 65544), (.int .i64 0)]⟩), (.agg ⟨[(.int .u64 65536), (.slice (some ⟨8, 0, none⟩) 24 24)]⟩), (.int .u64 65544), (.int .i64 0), (.tuple ⟨[(.agg ⟨[(.int .u8 5), (.int .i64 0), (.string ⟨⟨[]⟩⟩), (.slice (some ⟨27, 0, none⟩) 2 2), (.bool false)]⟩), (.int .i64 0)]⟩), (.slice (some ⟨11, 0, none⟩) 7 7), (.agg ⟨[(.int .u64 65536), (.slice (some ⟨8, 0, none⟩) 24 24)]⟩), (.slice (some ⟨12, 0, none⟩) 1 1), (.int .u64 65544), (.tuple ⟨[(.agg ⟨[(.int .u8 5), (.int .i64 0), (.string ⟨⟨[]⟩⟩), (.slice (some ⟨27, 0, none⟩) 2 2), (.bool false)]⟩), (.int .i64 0)]⟩), (.agg ⟨[(.int .u8 5), (.int .i64 0), (.string ⟨⟨[]⟩⟩), (.slice (some ⟨27, 0, none⟩) 2 2), (.bool false)]⟩), (.int .i64 0), undef, undef, undef, undef, undef, undef, undef, undef, undef, undef, undef, undef, undef, undef, undef, undef, undef, undef, undef, undef, undef, undef, undef, undef, undef, undef, undef, undef, undef, undef, undef, undef, undef, undef, undef, undef, undef, undef, undef, undef, undef, undef, undef, undef, undef, undef, undef, undef, undef, undef, undef, undef, undef, undef, undef, undef, undef, undef, undef, undef, undef, undef, undef, undef, undef, undef, undef], [some (.inl (71, false, [(.string ⟨⟨[97]⟩⟩), (.int .i64 2), (.string ⟨⟨[112]⟩⟩), (.int .i64 1)])), some (.inl (64, false, [(.int .u8 2), (.int .i64 0), (.int .i64 0), (.slice none 0 0), (.int .u8 4), (.int .i64 0), (.int .i64 0), (.slice none 0 0), (.int .u8 1), (.int .i64 0), (.int .i64 0), (.slice none 0 0), (.int .u8 5), (.int .i64 0), (.int .i64 0), (.slice (some ⟨0, 0, none⟩) 2 2), (.int .u8 7), (.int .i64 2), (.int .i64 0), (.slice none 0 0), (.int .u8 3), (.int .i64 0), (.int .i64 0), (.slice none 0 0), (.int .u8 4), (.int .i64 6), (.int .i64 0), (.slice none 0 0)])), some (.inl (32, false, [(.int .u8 5), (.int .i64 0), (.string ⟨⟨[]⟩⟩), (.slice (some ⟨4, 0, none⟩) 2 2), (.bool false)])), some (.inl (32, false, [(.int .u8 2), (.int .i64 7), (.string ⟨⟨[]⟩⟩), (.slice none 0 0), (.bool false)])), some (.inl (32, false, [(.int .u8 1), (.int .i64 1), (.string ⟨⟨[]⟩⟩), (.slice none 0 0), (.bool false), (.int .u8 4), (.int .i64 0), (.string ⟨⟨[]⟩⟩), (.slice (some ⟨3, 0, none⟩) 1 1), (.bool false)])), some (.inl (5, false, (bz [7, 0, 0, 0, 0, 0, 0, 0]))), some (.inl (5, false, (bz [1, 0, 0, 0, 0, 0, 0, 0, 0, 0, 1, 0, 0, 0, 0, 0]))), some (.inl (29, false, [(.int .u64 65536), (.slice (some ⟨5, 0, none⟩) 8 8)])), some (.inl (5, false, (bz [7, 0, 0, 0, 0, 0, 0, 0, 1, 0, 0, 0, 0, 0, 0, 0, 0, 0, 1, 0, 0, 0, 0, 0]))), some (.inl (29, false, [(.int .u64 65536), (.slice (some ⟨8, 0, none⟩) 24 24)])), some (.inl (71, false, [(.string ⟨⟨[97]⟩⟩), (.int .i64 2), (.string ⟨⟨[112]⟩⟩), (.int .i64 1)])), some (.inl (64, false, [(.int .u8 2), (.int .i64 0), (.int .i64 0), (.slice none 0 0), (.int .u8 4), (.int .i64 0), (.int .i64 0), (.slice none 0 0), (.int .u8 1), (.int .i64 0), (.int .i64 0), (.slice none 0 0), (.int .u8 5), (.int .i64 0), (.int .i64 0), (.slice (some ⟨10, 0, none⟩) 2 2), (.int .u8 7), (.int .i64 2), (.int .i64 0), (.slice none 0 0), (.int .u8 3), (.int .i64 0), (.int .i64 0), (.slice none 0 0), (.int .u8 4), (.int .i64 6), (.int .i64 0), (.slice none 0 0)])), some (.inl (29, false, [(.int .u64 65536), (.slice (some ⟨8, 0, none⟩) 24 24)])), some (.inl (32, false, [(.int .u8 5), (.int .i64 0), (.string ⟨⟨[]⟩⟩), (.slice (some ⟨27, 0, none⟩) 2 2), (.bool false)])), some (.inl (5, false, (bz [1, 0, 0, 0, 0, 0, 0, 0, 0, 0, 1, 0, 0, 0, 0, 0]))), some (.inl (78, false, [(.slice (some ⟨11, 0, none⟩) 7 7), (.slice (some ⟨12, 0, none⟩) 1 1)])), some (.inl (32, false, [(.int .u8 5), (.int .i64 0), (.string ⟨⟨[]⟩⟩), (.slice (some ⟨27, 0, none⟩) 2 2), (.bool false)])), some (.inl (64, false, [(.int .u8 5), (.int .i64 0), (.int .i64 0), (.slice (some ⟨10, 0, none⟩) 2 2)])), some (.inl (3, false, [(.int .i64 2), (.int .i64 1)])), some (.inl (3, false, [(.int .i64 0), (.int .i64 8)])), some (.inl (78, false, [(.slice (some ⟨11, 0, none⟩) 7 7), (.slice (some ⟨12, 0, none⟩) 1 1)])), some (.inl (32, false, [(.int .u8 1), (.int .i64 1), (.string ⟨⟨[]⟩⟩), (.slice none 0 0), (.bool false)])), some (.inl (32, false, [(.int .u8 1), (.int .i64 1), (.string ⟨⟨[]⟩⟩), (.slice none 0 0), (.bool false)])), none, some (.inl (32, false, [(.int .u8 2), (.int .i64 7), (.string ⟨⟨[]⟩⟩), (.slice none 0 0), (.bool false)])), some (.inl (32, false, [(.int .u8 4), (.int .i64 0), (.string ⟨⟨[]⟩⟩), (.slice (some ⟨24, 0, none⟩) 1 1), (.bool false)])), some (.inl (32, false, [(.int .u8 4), (.int .i64 0), (.string ⟨⟨[]⟩⟩), (.slice (some ⟨24, 0, none⟩) 1 1), (.bool false)])), some (.inl (32, false, [(.int .u8 1), (.int .i64 1), (.string ⟨⟨[]⟩⟩), (.slice none 0 0), (.bool false), (.int .u8 4), (.int .i64 0), (.string ⟨⟨[]⟩⟩), (.slice (some ⟨24, 0, none⟩) 1 1), (.bool false)])), some (.inl (32, false, [(.int .u8 5), (.int .i64 0), (.string ⟨⟨[]⟩⟩), (.slice (some ⟨27, 0, none⟩) 2 2), (.bool false)]))], 29⟩
noncomputable def st3 : St := ⟨[(.bool false), (.pointer (some ⟨7, 0, none⟩)), (.slice (some ⟨6, 0, none⟩) 16 16), (.int .i64 0), (.pointer (some ⟨9, 0, none⟩)), (.int .u64 65544), (.int .i64 0), (.pointer (some ⟨28, 0, none⟩)), (.int .i64 0), (.pointer (some ⟨33, 0, none⟩)), (.int .i64 0), (.tuple ⟨[(.agg ⟨[(.int .u64 65536), (.slice (some ⟨5, 0, none⟩) 8 8)]⟩), (.slice (some ⟨6, 0, none⟩) 16 16), (.int .i64 0)]⟩), (.slice (some ⟨1, 0, none⟩) 7 7), (.agg ⟨[(.int .u64 65536), (.slice none 0 0)]⟩), (.agg ⟨[(.int .u8 5), (.int .i64 0), (.string ⟨⟨[]⟩⟩), (.slice (some ⟨4, 0, none⟩) 2 2), (.bool false)]⟩), (.tuple ⟨[(.agg ⟨[(.int .u64 65536), (.slice (some ⟨5, 0, none⟩) 8 8)]⟩), (.slice (some ⟨6, 0, none⟩) 16 16), (.int .i64 0)]⟩), (.agg ⟨[(.int .u64 65536), (.slice (some ⟨5, 0, none⟩) 8 8)]⟩), (.slice (some ⟨6, 0, none⟩) 16 16), (.int .i64 0), (.tuple ⟨[(.agg ⟨[(.int .u64 65536), (.slice (some ⟨8, 0, none⟩) 24 24)]⟩), (.int .u64 65544), (.int .i64 0)]⟩), (.agg ⟨[(.int .u64 65536), (.slice (some ⟨5, 0, none⟩) 8 8)]⟩), (.slice (some ⟨6, 0, none⟩) 16 16), (.tuple ⟨[(.agg ⟨[(.int .u64 65536), (.slice (some ⟨8, 0, none⟩) 24 24)]⟩), (.int .u64 65544), (.int .i64 0)]⟩), (.agg ⟨[(.int .u64 65536), (.slice (some ⟨8, 0, none⟩) 24 24)]⟩), (.int .u64 65544), (.int .i64 0), (.tuple ⟨[(.agg ⟨[(.int .u8 5), (.int .i64 0), (.string ⟨⟨[]⟩⟩), (.slice (some ⟨27, 0, none⟩) 2 2), (.bool false)]⟩), (.int .i64 0)]⟩), (.slice (some ⟨11, 0, none⟩) 7 7), (.agg ⟨[(.int .u64 65536), (.slice (some ⟨8, 0, none⟩) 24 24)]⟩), (.slice (some ⟨12, 0, none⟩) 1 1), (.int .u64 65544), (.tuple ⟨[(.agg ⟨[(.int .u8 5), (.int .i64 0), (.string ⟨⟨[]⟩⟩), (.slice (some ⟨27, 0, none⟩) 2 2), (.bool false)]⟩), (.int .i64 0)]⟩), (.agg ⟨[(.int .u8 5), (.int .i64 0), (.string ⟨⟨[]⟩⟩), (.slice (some ⟨27, 0, none⟩) 2 2), (.bool false)]⟩), (.int .i64 0), (.tuple ⟨[(.agg ⟨[(.int .u8 5), (.int .i64 0), (.string ⟨⟨[]⟩⟩), (.slice (some ⟨32, 0, none⟩) 2 2), (.bool false)]⟩), (.int .i64 0)]⟩), (.slice (some ⟨30, 0, none⟩) 7 7), (.agg ⟨[(.int .u64 65536), (.slice (some ⟨8, 0, none⟩) 24 24)]⟩), (.slice (some ⟨31, 0, none⟩) 1 1), (.int .u64 65544), (.tuple ⟨[(.agg ⟨[(.int .u8 5), (.int .i64 0), (.string ⟨⟨[]⟩⟩), (.slice (some ⟨32, 0, none⟩) 2 2), (.bool false)]⟩), (.int .i64 0)]⟩), (.agg ⟨[(.int .u8 5), (.int .i64 0), (.string ⟨⟨[]⟩⟩), (.slice (some ⟨32, 0, none⟩) 2 2), (.bool false)]⟩), (.int .i64 0), undef, undef, undef, undef, undef, undef, undef, undef, undef, undef, undef, undef, undef, undef, undef, undef, undef, undef, undef, undef, undef, undef, undef, undef, undef, undef, undef, undef, undef, undef, undef, undef, undef, undef, undef, undef, undef, undef, undef, undef, undef, undef, undef, undef, undef, undef, undef, undef, undef, undef, undef, undef, undef, undef, undef, undef, undef, undef, undef], [some (.inl (71, false, [(.string ⟨⟨[97]⟩⟩), (.int .i64 2), (.string ⟨⟨[112]⟩⟩), (.int .i64 1)])), some (.inl (64, false, [(.int .u8 2), (.int .i64 0), (.int .i64 0), (.slice none 0 0), (.int .u8 4), (.int .i64 0), (.int .i64 0), (.slice none 0 0), (.int .u8 1), (.int .i64 0), (.int .i64 0), (.slice none 0 0), (.int .u8 5), (.int .i64 0), (.int .i64 0), (.slice (some ⟨0, 0, none⟩) 2 2), (.int .u8 7), (.int .i64 2), (.int .i64 0), (.slice none 0 0), (.int .u8 3), (.int .i64 0), (.int .i64 0), (.slice none 0 0), (.int .u8 4), (.int .i64 6), (.int .i64 0), (.slice none 0 0)])), some (.inl (32, false, [(.int .u8 5), (.int .i64 0), (.string ⟨⟨[]⟩⟩), (.slice (some ⟨4, 0, none⟩) 2 2), (.bool false)])), some (.inl (32, false, [(.int .u8 2), (.int .i64 7), (.string ⟨⟨[]⟩⟩), (.slice none 0 0), (.bool false)])), some (.inl (32, false, [(.int .u8 1), (.int .i64 1), (.string ⟨⟨[]⟩⟩), (.slice none 0 0), (.bool false), (.int .u8 4), (.int .i64 0), (.string ⟨⟨[]⟩⟩), (.slice (some ⟨3, 0, none⟩) 1 1), (.bool false)])), some (.inl (5, false, (bz [7, 0, 0, 0, 0, 0, 0, 0]))), some (.inl (5, false, (bz [1, 0, 0, 0, 0, 0, 0, 0, 0, 0, 1, 0, 0, 0, 0, 0]))), some (.inl (29, false, [(.int .u64 65536), (.slice (some ⟨5, 0, none⟩) 8 8)])), some (.inl (5, false, (bz [7, 0, 0, 0, 0, 0, 0, 0, 1, 0, 0, 0, 0, 0, 0, 0, 0, 0, 1, 0, 0, 0, 0, 0]))), some (.inl (29, false, [(.int .u64 65536), (.slice (some ⟨8, 0, none⟩) 24 24)])), some (.inl (71, false, [(.string ⟨⟨[97]⟩⟩), (.int .i64 2), (.string ⟨⟨[112]⟩⟩), (.int .i64 1)])), some (.inl (64, false, [(.int .u8 2), (.int .i64 0), (.int .i64 0), (.slice none 0 0), (.int .u8 4), (.int .i64 0), (.int .i64 0), (.slice none 0 0), (.int .u8 1), (.int .i64 0), (.int .i64 0), (.slice none 0 0), (.int .u8 5), (.int .i64 0), (.int .i64 0), (.slice (some ⟨10, 0, none⟩) 2 2), (.int .u8 7), (.int .i64 2), (.int .i64 0), (.slice none 0 0), (.int .u8 3), (.int .i64 0), (.int .i64 0), (.slice none 0 0), (.int .u8 4), (.int .i64 6), (.int .i64 0), (.slice none 0 0)])), some (.inl (29, false, [(.int .u64 65536), (.slice (some ⟨8, 0, none⟩) 24 24)])), some (.inl (32, false, [(.int .u8 5), (.int .i64 0), (.string ⟨⟨[]⟩⟩), (.slice (some ⟨27, 0, none⟩) 2 2), (.bool false)])), some (.inl (5, false, (bz [1, 0, 0, 0, 0, 0, 0, 0, 0, 0, 1, 0, 0, 0, 0, 0]))), some (.inl (78, false, [(.slice (some ⟨11, 0, none⟩) 7 7), (.slice (some ⟨12, 0, none⟩) 1 1)])), some (.inl (32, false, [(.int .u8 5), (.int .i64 0), (.string ⟨⟨[]⟩⟩), (.slice (some ⟨27, 0, none⟩) 2 2), (.bool false)])), some (.inl (64, false, [(.int .u8 5), (.int .i64 0), (.int .i64 0), (.slice (some ⟨10, 0, none⟩) 2 2)])), some (.inl (3, false, [(.int .i64 2), (.int .i64 1)])), some (.inl (3, false, [(.int .i64 0), (.int .i64 8)])), some (.inl (78, false, [(.slice (some ⟨11, 0, none⟩) 7 7), (.slice (some ⟨12, 0, none⟩) 1 1)])), some (.inl (32, false, [(.int .u8 1), (.int .i64 1), (.string ⟨⟨[]⟩⟩), (.slice none 0 0), (.bool false)])), some (.inl (32, false, [(.int .u8 1), (.int .i64 1), (.string ⟨⟨[]⟩⟩), (.slice none 0 0), (.bool false)])), none, some (.inl (32, false, [(.int .u8 2), (.int .i64 7), (.string ⟨⟨[]⟩⟩), (.slice none 0 0), (.bool false)])), some (.inl (32, false, [(.int .u8 4), (.int .i64 0), (.string ⟨⟨[]⟩⟩), (.slice (some ⟨24, 0, none⟩) 1 1), (.bool false)])), some (.inl (32, false, [(.int .u8 4), (.int .i64 0), (.string ⟨⟨[]⟩⟩), (.slice (some ⟨24, 0, none⟩) 1 1), (.bool false)])), some (.inl (32, false, [(.int .u8 1), (.int .i64 1), (.string ⟨⟨[]⟩⟩), (.slice none 0 0), (.bool false), (.int .u8 4), (.int .i64 0), (.string ⟨⟨[]⟩⟩), (.slice (some ⟨24, 0, none⟩) 1 1), (.bool false)])), some (.inl (32, false, [(.int .u8 5), (.int .i64 0), (.string ⟨⟨[]⟩⟩), (.slice (some ⟨27, 0, none⟩) 2 2), (.bool false)])), some (.inl (71, false, [(.string ⟨⟨[97]⟩⟩), (.int .i64 2), (.string ⟨⟨[112]⟩⟩), (.int .i64 1)])), some (.inl (64, false, [(.int .u8 2), (.int .i64 0), (.int .i64 0), (.slice none 0 0), (.int .u8 4), (.int .i64 0), (.int .i64 0), (.slice none 0 0), (.int .u8 1), (.int .i64 0), (.int .i64 0), (.slice none 0 0), (.int .u8 5), (.int .i64 0), (.int .i64 0), (.slice (some ⟨29, 0, none⟩) 2 2), (.int .u8 7), (.int .i64 2), (.int .i64 0), (.slice none 0 0), (.int .u8 3), (.int .i64 0), (.int .i64 0), (.slice none 0 0), (.int .u8 4), (.int .i64 6), (.int .i64 0), (.slice none 0 0)])), some (.inl (29, false, [(.int .u64 65536), (.slice (some ⟨8, 0, none⟩) 24 24)])), some (.inl (32, false, [(.int .u8 1), (.int .i64 1), (.string ⟨⟨[]⟩⟩), (.slice none 0 0), (.bool false), (.int .u8 4), (.int .i64 0), (.string ⟨⟨[]⟩⟩), (.slice none 0 0), (.bool true)])), some (.inl (32, false, [(.int .u8 5), (.int .i64 0), (.string ⟨⟨[]⟩⟩), (.slice (some ⟨32, 0, none⟩) 2 2), (.bool false)]))], 34⟩
noncomputable def st4 : St := ⟨[(.bool true), (.pointer (some ⟨7, 0, none⟩)), (.slice (some ⟨6, 0, none⟩) 16 16), (.int .i64 0), (.pointer (some ⟨9, 0, none⟩)), (.int .u64 65544), (.int .i64 0), (.pointer (some ⟨28, 0, none⟩)), (.int .i64 0), (.pointer (some ⟨33, 0, none⟩)), (.int .i64 0), (.tuple ⟨[(.agg ⟨[(.int .u64 65536), (.slice (some ⟨5, 0, none⟩) 8 8)]⟩), (.slice (some ⟨6, 0, none⟩) 16 16), (.int .i64 0)]⟩), (.slice (some ⟨1, 0, none⟩) 7 7), (.agg ⟨[(.int .u64 65536), (.slice none 0 0)]⟩), (.agg ⟨[(.int .u8 5), (.int .i64 0), (.string ⟨⟨[]⟩⟩), (.slice (some ⟨4, 0, none⟩) 2 2), (.bool false)]⟩), (.tuple ⟨[(.agg ⟨[(.int .u64 65536), (.slice (some ⟨5, 0, none⟩) 8 8)]⟩), (.slice (some ⟨6, 0, none⟩) 16 16), (.int .i64 0)]⟩), (.agg ⟨[(.int .u64 65536), (.slice (some ⟨5, 0, none⟩) 8 8)]⟩), (.slice (some ⟨6, 0, none⟩) 16 16), (.int .i64 0), (.tuple ⟨[(.agg ⟨[(.int .u64 65536), (.slice (some ⟨8, 0, none⟩) 24 24)]⟩), (.int .u64 65544), (.int .i64 0)]⟩), (.agg ⟨[(.int .u64 65536), (.slice (some ⟨5, 0, none⟩) 8 8)]⟩), (.slice (some ⟨6, 0, none⟩) 16 16), (.tuple ⟨[(.agg ⟨[(.int .u64 65536), (.slice (some ⟨8, 0, none⟩) 24 24)]⟩), (.int .u64 65544), (.int .i64 0)]⟩), (.agg ⟨[(.int .u64 65536), (.slice (some ⟨8, 0, none⟩) 24 24)]⟩), (.int .u64 65544), (.int .i64 0), (.tuple ⟨[(.agg ⟨[(.int .u8 5), (.int .i64 0), (.string ⟨⟨[]⟩⟩), (.slice (some ⟨27, 0, none⟩) 2 2), (.bool false)]⟩), (.int .i64 0)]⟩), (.slice (some ⟨11, 0, none⟩) 7 7), (.agg ⟨[(.int .u64 65536), (.slice (some ⟨8, 0, none⟩) 24 24)]⟩), (.slice (some ⟨12, 0, none⟩) 1 1), (.int .u64 65544), (.tuple ⟨[(.agg ⟨[(.int .u8 5), (.int .i64 0), (.string ⟨⟨[]⟩⟩), (.slice (some ⟨27, 0, none⟩) 2 2), (.bool false)]⟩), (.int .i64 0)]⟩), (.agg ⟨[(.int .u8 5), (.int .i64 0), (.string ⟨⟨[]⟩⟩), (.slice (some ⟨27, 0, none⟩) 2 2), (.bool false)]⟩), (.int .i64 0), (.tuple ⟨[(.agg ⟨[(.int .u8 5), (.int .i64 0), (.string ⟨⟨[]⟩⟩), (.slice (some ⟨32, 0, none⟩) 2 2), (.bool false)]⟩), (.int .i64 0)]⟩), (.slice (some ⟨30, 0, none⟩) 7 7), (.agg ⟨[(.int .u64 65536), (.slice (some ⟨8, 0, none⟩) 24 24)]⟩), (.slice (some ⟨31, 0, none⟩) 1 1), (.int .u64 65544), (.tuple ⟨[(.agg ⟨[(.int .u8 5), (.int .i64 0), (.string ⟨⟨[]⟩⟩), (.slice (some ⟨32, 0, none⟩) 2 2), (.bool false)]⟩), (.int .i64 0)]⟩), (.agg ⟨[(.int .u8 5), (.int .i64 0), (.string ⟨⟨[]⟩⟩), (.slice (some ⟨32, 0, none⟩) 2 2), (.bool false)]⟩), (.int .i64 0), (.int .i64 0), (.bool false), (.bool false), (.int .i64 0), (.bool false), (.bool false), (.bool false), (.int .i64 0), (.bool false), (.bool false), (.bool false), (.int .i64 0), (.bool false), (.bool false), (.bool false), (.pointer (some ⟨33, 3, none⟩)), (.slice (some ⟨32, 0, none⟩) 2 2), (.int .i64 2), (.bool false), (.bool false), (.slice (some ⟨6, 0, none⟩) 16 16), (.string ⟨⟨[1, 0, 0, 0, 0, 0, 0, 0, 0, 0, 1, 0, 0, 0, 0, 0]⟩⟩), (.slice (some ⟨34, 0, none⟩) 16 16), (.string ⟨⟨[1, 0, 0, 0, 0, 0, 0, 0, 0, 0, 1, 0, 0, 0, 0, 0]⟩⟩), (.bool true), (.bool true), (.pointer (some ⟨7, 1, none⟩)), (.slice (some ⟨5, 0, none⟩) 8 8), (.int .i64 8), (.bool true), (.bool true), (.bool true), (.pointer (some ⟨7, 1, none⟩)), (.slice (some ⟨5, 0, none⟩) 8 8), (.pointer (some ⟨5, 0, none⟩)), (.int .u8 7), (.bool true), (.bool true), (.bool true), (.agg ⟨[(.int .u8 5), (.int .i64 0), (.string ⟨⟨[]⟩⟩), (.slice (some ⟨27, 0, none⟩) 2 2), (.bool false)]⟩), (.agg ⟨[(.int .u8 5), (.int .i64 0), (.string ⟨⟨[]⟩⟩), (.slice (some ⟨37, 0, none⟩) 2 2), (.bool false)]⟩), (.bool true), (.bool true), (.bool true), (.pointer (some ⟨33, 3, none⟩)), (.slice (some ⟨32, 0, none⟩) 2 2), (.pointer (some ⟨32, 5, none⟩)), (.pointer (some ⟨32, 9, none⟩)), (.bool true), (.bool true), (.bool true), (.pointer (some ⟨33, 3, none⟩)), (.slice (some ⟨32, 0, none⟩) 2 2), (.pointer (some ⟨32, 5, none⟩)), (.pointer (some ⟨32, 8, none⟩)), (.slice none 0 0), (.int .i64 0), (.bool true), (.bool true)], [some (.inl (71, false, [(.string ⟨⟨[97]⟩⟩), (.int .i64 2), (.string ⟨⟨[112]⟩⟩), (.int .i64 1)])), some (.inl (64, false, [(.int .u8 2), (.int .i64 0), (.int .i64 0), (.slice none 0 0), (.int .u8 4), (.int .i64 0), (.int .i64 0), (.slice none 0 0), (.int .u8 1), (.int .i64 0), (.int .i64 0), (.slice none 0 0), (.int .u8 5), (.int .i64 0), (.int .i64 0), (.slice (some ⟨0, 0, none⟩) 2 2), (.int .u8 7), (.int .i64 2), (.int .i64 0), (.slice none 0 0), (.int .u8 3), (.int .i64 0), (.int .i64 0), (.slice none 0 0), (.int .u8 4), (.int .i64 6), (.int .i64 0), (.slice none 0 0)])), some (.inl (32, false, [(.int .u8 5), (.int .i64 0), (.string ⟨⟨[]⟩⟩), (.slice (some ⟨4, 0, none⟩) 2 2), (.bool false)])), some (.inl (32, false, [(.int .u8 2), (.int .i64 7), (.string ⟨⟨[]⟩⟩), (.slice none 0 0), (.bool false)])), some (.inl (32, false, [(.int .u8 1), (.int .i64 1), (.string ⟨⟨[]⟩⟩), (.slice none 0 0), (.bool false), (.int .u8 4), (.int .i64 0), (.string ⟨⟨[]⟩⟩), (.slice (some ⟨3, 0, none⟩) 1 1), (.bool false)])), some (.inl (5, false, (bz [7, 0, 0, 0, 0, 0, 0, 0]))), some (.inl (5, false, (bz [1, 0, 0, 0, 0, 0, 0, 0, 0, 0, 1, 0, 0, 0, 0, 0]))), some (.inl (29, false, [(.int .u64 65536), (.slice (some ⟨5, 0, none⟩) 8 8)])), some (.inl (5, false, (bz [7, 0, 0, 0, 0, 0, 0, 0, 1, 0, 0, 0, 0, 0, 0, 0, 0, 0, 1, 0, 0, 0, 0, 0]))), some (.inl (29, false, [(.int .u64 65536), (.slice (some ⟨8, 0, none⟩) 24 24)])), some (.inl (71, false, [(.string ⟨⟨[97]⟩⟩), (.int .i64 2), (.string ⟨⟨[112]⟩⟩), (.int .i64 1)])), some (.inl (64, false, [(.int .u8 2), (.int .i64 0), (.int .i64 0), (.slice none 0 0), (.int .u8 4), (.int .i64 0), (.int .i64 0), (.slice none 0 0), (.int .u8 1), (.int .i64 0), (.int .i64 0), (.slice none 0 0), (.int .u8 5), (.int .i64 0), (.int .i64 0), (.slice (some ⟨10, 0, none⟩) 2 2), (.int .u8 7), (.int .i64 2), (.int .i64 0), (.slice none 0 0), (.int .u8 3), (.int .i64 0), (.int .i64 0), (.slice none 0 0), (.int .u8 4), (.int .i64 6), (.int .i64 0), (.slice none 0 0)])), some (.inl (29, false, [(.int .u64 65536), (.slice (some ⟨8, 0, none⟩) 24 24)])), some (.inl (32, false, [(.int .u8 5), (.int .i64 0), (.string ⟨⟨[]⟩⟩), (.slice (some ⟨27, 0, none⟩) 2 2), (.bool false)])), some (.inl (5, false, (bz [1, 0, 0, 0, 0, 0, 0, 0, 0, 0, 1, 0, 0, 0, 0, 0]))), some (.inl (78, false, [(.slice (some ⟨11, 0, none⟩) 7 7), (.slice (some ⟨12, 0, none⟩) 1 1)])), some (.inl (32, false, [(.int .u8 5), (.int .i64 0), (.string ⟨⟨[]⟩⟩), (.slice (some ⟨27, 0, none⟩) 2 2), (.bool false)])), some (.inl (64, false, [(.int .u8 5), (.int .i64 0), (.int .i64 0), (.slice (some ⟨10, 0, none⟩) 2 2)])), some (.inl (3, false, [(.int .i64 2), (.int .i64 1)])), some (.inl (3, false, [(.int .i64 0), (.int .i64 8)])), some (.inl (78, false, [(.slice (some ⟨11, 0, none⟩) 7 7), (.slice (some ⟨12, 0, none⟩) 1 1)])), some (.inl (32, false, [(.int .u8 1), (.int .i64 1), (.string ⟨⟨[]⟩⟩), (.slice none 0 0), (.bool false)])), some (.inl (32, false, [(.int .u8 1), (.int .i64 1), (.string ⟨⟨[]⟩⟩), (.slice none 0 0), (.bool false)])), none, some (.inl (32, false, [(.int .u8 2), (.int .i64 7), (.string ⟨⟨[]⟩⟩), (.slice none 0 0), (.bool false)])), some (.inl (32, false, [(.int .u8 4), (.int .i64 0), (.string ⟨⟨[]⟩⟩), (.slice (some ⟨24, 0, none⟩) 1 1), (.bool false)])), some (.inl (32, false, [(.int .u8 4), (.int .i64 0), (.string ⟨⟨[]⟩⟩), (.slice (some ⟨24, 0, none⟩) 1 1), (.bool false)])), some (.inl (32, false, [(.int .u8 1), (.int .i64 1), (.string ⟨⟨[]⟩⟩), (.slice none 0 0), (.bool false), (.int .u8 4), (.int .i64 0), (.string ⟨⟨[]⟩⟩), (.slice (some ⟨24, 0, none⟩) 1 1), (.bool false)])), some (.inl (32, false, [(.int .u8 5), (.int .i64 0), (.string ⟨⟨[]⟩⟩), (.slice (some ⟨27, 0, none⟩) 2 2), (.bool false)])), some (.inl (71, false, [(.string ⟨⟨[97]⟩⟩), (.int .i64 2), (.string ⟨⟨[112]⟩⟩), (.int .i64 1)])), some (.inl (64, false, [(.int .u8 2), (.int .i64 0), (.int .i64 0), (.slice none 0 0), (.int .u8 4), (.int .i64 0), (.int .i64 0), (.slice none 0 0), (.int .u8 1), (.int .i64 0), (.int .i64 0), (.slice none 0 0), (.int .u8 5), (.int .i64 0), (.int .i64 0), (.slice (some ⟨29, 0, none⟩) 2 2), (.int .u8 7), (.int .i64 2), (.int .i64 0), (.slice none 0 0), (.int .u8 3), (.int .i64 0), (.int .i64 0), (.slice none 0 0), (.int .u8 4), (.int .i64 6), (.int .i64 0), (.slice none 0 0)])), some (.inl (29, false, [(.int .u64 65536), (.slice (some ⟨8, 0, none⟩) 24 24)])), some (.inl (32, false, [(.int .u8 1), (.int .i64 1), (.string ⟨⟨[]⟩⟩), (.slice none 0 0), (.bool false), (.int .u8 4), (.int .i64 0), (.string ⟨⟨[]⟩⟩), (.slice none 0 0), (.bool true)])), some (.inl (32, false, [(.int .u8 5), (.int .i64 0), (.string ⟨⟨[]⟩⟩), (.slice (some ⟨32, 0, none⟩) 2 2), (.bool false)])), some (.inl (5, false, (bz [1, 0, 0, 0, 0, 0, 0, 0, 0, 0, 1, 0, 0, 0, 0, 0]))), some (.inl (32, false, [(.int .u8 5), (.int .i64 0), (.string ⟨⟨[]⟩⟩), (.slice (some ⟨37, 0, none⟩) 2 2), (.bool false)])), some (.inl (32, false, [(.int .u8 2), (.int .i64 7), (.string ⟨⟨[]⟩⟩), (.slice none 0 0), (.bool false)])), some (.inl (32, false, [(.int .u8 1), (.int .i64 1), (.string ⟨⟨[]⟩⟩), (.slice none 0 0), (.bool false), (.int .u8 4), (.int .i64 0), (.string ⟨⟨[]⟩⟩), (.slice (some ⟨36, 0, none⟩) 1 1), (.bool false)]))], 38⟩
end Go.Proofs.Ytcpkdjikembpnaa.alive15Parts
namespace Go.Proofs.Ytcpkdjikembpnaa.alive15Parts
open Go.Proofs.Ytcpkdjikembpnaa Go.Proofs.Ytcpkdjikembpnaa.Ce
open Go.RowKit
theorem run0 : acode Try.prog fs 2000 0 (tk 2 body) st0 = some (0, st1) := by kernel_rfl
end Go.Proofs.Ytcpkdjikembpnaa.alive15Parts
namespace Go.Proofs.Ytcpkdjikembpnaa.alive15Parts
open Go.Proofs.Ytcpkdjikembpnaa Go.Proofs.Ytcpkdjikembpnaa.Ce
open Go.RowKit
theorem run1 : acode Try.prog fs 2000 0 (tk 2 (dr 2 body)) st1 = some (0, st2) := by kernel_rfl
end Go.Proofs.Ytcpkdjikembpnaa.alive15Parts
namespace Go.Proofs.Ytcpkdjikembpnaa.alive15Parts
open Go.Proofs.Ytcpkdjikembpnaa Go.Proofs.Ytcpkdjikembpnaa.Ce
open Go.RowKit
theorem run2 : acode Try.prog fs 2000 0 (tk 1 (dr 2 (dr 2 body))) st2 = some (0, st3) := by kernel_rfl
end Go.Proofs.Ytcpkdjikembpnaa.alive15Parts
namespace Go.Proofs.Ytcpkdjikembpnaa.alive15Parts
open Go.Proofs.Ytcpkdjikembpnaa Go.Proofs.Ytcpkdjikembpnaa.Ce
open Go.RowKit
theorem run3 : acode Try.prog fs 2000 0 (dr 1 (dr 2 (dr 2 body))) st3 = some (1, st4) := by kernel_rfl
end Go.Proofs.Ytcpkdjikembpnaa.alive15Parts
namespace Go.Proofs.Ytcpkdjikembpnaa.alive15Parts
open Go.Proofs.Ytcpkdjikembpnaa Go.Proofs.Ytcpkdjikembpnaa.Ce
open Go.RowKit
theorem evalTab : ∃ h n, afunc Try.prog fs mayWrite 2000 0 25 [] [] 0 = some ((.bool true), h, n) :=
 cut_law (P := Try.prog) (W := mayWrite) (k := 2000) (F := fs) (f := 25) (c := bodyOf Try.prog 25) (nt := ntOf Try.prog 25) (rs := Try.f25.results.toList) (v := (.bool true)) (by kernel_rfl) (by kernel_rfl) (by kernel_rfl) rfl (flat_law (show acode Try.prog fs 2000 0 body st0 = some (1, st4) from (cut_at 2 run0 (cut_at 2 run1 (cut_at 1 run2 run3))))) rfl (by kernel_rfl) (by kernel_rfl)
theorem eval : flatT (.bool true) = true ∧ ∃ h n, acall Try.prog mayWrite 2000 41 0 25 [] [] 0 = some ((.bool true), h, n) := by
 have h := evalTab
 unfold fs known at h
 rw [tab_nil] at h
 exact ⟨rfl, h⟩
end Go.Proofs.Ytcpkdjikembpnaa.alive15Parts
namespace Go.Proofs.Ytcpkdjikembpnaa.Ce
open Go.RowKit
theorem tb15_ok : ∀ x ∈ tb15, flatT x.2 = true ∧ ∃ (W0 : FuncId → Bool) (k0 d0 : Nat) (h0 : Hp) (n0 : Nat), acall Try.prog W0 k0 d0 0 x.1 [] [] 0 = some (x.2, h0, n0) := by
 intro x hx
 unfold tb15 at hx
 simp only [List.mem_cons, List.not_mem_nil, or_false] at hx
 subst hx
 obtain ⟨h1, h0, n0, h2⟩ := alive15Parts.eval
 exact ⟨h1, _, _, _, h0, n0, h2⟩
end Go.Proofs.Ytcpkdjikembpnaa.Ce
namespace Go.Proofs.Ytcpkdjikembpnaa
open Go.ChangeShapes Go.WideShapes Go.ChangeAt Go.RowKit Go.Joins Go.Deep
section
variable {H : Type} {enc : TypeId × Value → H} {P : Program} {w : World} {base : Nat}
end
end Go.Proofs.Ytcpkdjikembpnaa
namespace Go.Proofs.Ytcpkdjikembpnaa
open Go.ChangeShapes Go.WideShapes Go.ChangeAt Go.RowKit Go.Joins Go.Deep
section
variable {H : Type} {enc : TypeId × Value → H} {P : Program} {w : World} {base : Nat}
end
end Go.Proofs.Ytcpkdjikembpnaa
namespace Go.Proofs.Ytcpkdjikembpnaa
open Go.ChangeShapes Go.WideShapes Go.ChangeAt Go.RowKit Go.Joins Go.Deep
section
variable {H : Type} {enc : TypeId × Value → H} {P : Program} {w : World} {base : Nat}
end
end Go.Proofs.Ytcpkdjikembpnaa
namespace Go.Proofs.Ytcpkdjikembpnaa
open Go.ChangeShapes Go.WideShapes Go.ChangeAt Go.RowKit Go.Joins Go.Deep
def iv (l : List Int) : List Value := l.map fun z => .int .i64 z
theorem iv_length (l : List Int) : (iv l).length = l.length := by simp [iv]
theorem rd_of_cells {w : World} {a : Addr} {vs : List Value} (h : ∀ i v, vs[i]? = some v → w.cell? (a.add i) = some v) : Rd w w.heap.size (some a) vs := by
 by_cases hx : vs = []
 ·exact .inl hx
 ·obtain ⟨b, off, spot⟩ := a
  obtain ⟨v0, hv0⟩ : ∃ v, vs[0]? = some v := by
   cases vs with
   | nil => exact absurd rfl hx
   | cons v _ => exact ⟨v, rfl⟩
  have hc0 := h 0 v0 hv0
  have hspot : spot = none := by simpa [Addr.add] using World.cell?_spot hc0
  subst hspot
  have hbl : b < w.heap.size := by
   have := World.block_lt_of_cell? w _ hc0
   rw [add_none] at this
   exact this
  exact .inr ⟨b, off, rfl, hbl, fun j v hj => by have := h j v hj; rwa [add_none] at this⟩
section
variable {H : Type} {enc : TypeId × Value → H} {P : Program} {w : World} {base : Nat}
end
end Go.Proofs.Ytcpkdjikembpnaa
namespace Go.Proofs.Ytcpkdjikembpnaa
open Go.ChangeShapes Go.WideShapes Go.ChangeAt Go.RowKit Go.Joins Go.Deep
section
variable {H : Type} {enc : TypeId × Value → H} {P : Program} {w : World} {base : Nat}
end
end Go.Proofs.Ytcpkdjikembpnaa
namespace Go.Proofs.Ytcpkdjikembpnaa
open Go.ChangeShapes Go.WideShapes Go.ChangeAt Go.RowKit Go.Joins Go.Deep
theorem list_of {α : Type} {Q : Nat → α → Prop} : ∀ {m : Nat}, (∀ i, i < m → ∃ r, Q i r) → ∃ l : List α, l.length = m ∧ ∀ i (hi : i < l.length), Q i l[i]
 | 0, _ => ⟨[], rfl, fun i hi => by simp at hi⟩
 | n + 1, h => by
  obtain ⟨l, hl, hx⟩ := list_of fun i (hi : i < n) => h i (by omega)
  obtain ⟨r, hr⟩ := h n (by omega)
  refine ⟨l ++ [r], by simp [hl], fun i hi => ?_⟩
  by_cases hlt : i < l.length
  ·rw [List.getElem_append_left hlt]; exact hx i hlt
  ·have : i = l.length := by simp at hi; omega
   subst this
   rw [List.getElem_append_right (Nat.le_refl _)]
   simp only [Nat.sub_self, List.getElem_singleton, hl]
   exact hr
section
variable {H : Type} {enc : TypeId × Value → H} {P : Program} {w : World} {base : Nat}
theorem open_fields_cell {t e ts ti : TypeId} {f0 f1 : Field} {held : Bool} {fuel : Nat} {v : Value} {x : DataW H × List MemPlace} (ht : P.underlying t = some (.slice e)) (he : P.underlying e = some (.struct #[f0, f1]))
  (ce : P.cellsOf e = 2) (o0 : f0.offset = 0) (o1 : f1.offset = 1) (c0 : P.cellsOf f0.type = 1) (c1 : P.cellsOf f1.type = 1) (h0 : f0.type = ts) (h1 : f1.type = ti) (hs : P.underlying ts = some .string) (hi : P.underlying ti = some (.int .i64))
  (h : DataW.trod enc P w base (fun _ => true) held fuel t [v] = some x) :
  ∃ (A : Option Addr) (fs : List (List UInt8 × Int)) (c : Nat), v = .slice A fs.length c ∧ Rd w w.heap.size A (Ce.fv fs) ∧ fs.length ≤ c ∧ c ≤ 9223372036854775807 ∧ (A = none → c = 0) ∧ ∀ f ∈ fs, Ce.I64 f.2 := by
 rcases open_slice_pairs ht he ce o0 o1 c0 c1 h with ⟨hcs, _⟩ | ⟨a, len, cap, m, n, V0, V1, D0, D1, P0, P1, hcs, _, hl, hmx, hmm, _, hx⟩
 ·injection hcs with hcs _
  exact ⟨none, [], 0, hcs, Rd.nil_, by simp, by omega, fun _ => rfl, by simp⟩
 ·injection hcs with hcs _
  simp at hmm
  obtain ⟨fs, hfl, hfx⟩ := list_of (m := len) (Q := fun i (f : List UInt8 × Int) => w.cell? (a.add (i * 2)) = some (.string ⟨⟨f.1⟩⟩) ∧ w.cell? (a.add (i * 2 + 1)) = some (.int .i64 f.2) ∧ Ce.I64 f.2) fun i hi' => by
   obtain ⟨k0, k1, t0, t1⟩ := hx i (by omega)
   rw [h0] at t0
   rw [h1] at t1
   obtain ⟨s, e0, _, _⟩ := DataW.trod_string hs t0
   obtain ⟨b, e1, _, wb⟩ := DataW.trod_int hi t1
   injection e0 with e0 _
   injection e1 with e1 _
   exact ⟨(s.data.toList, b), by rw [k0, e0], by rw [k1, e1], bounds_i64 wb⟩
  refine ⟨some a, fs, cap, by rw [hfl, hcs], rd_of_cells fun q v hq => ?_, by omega, by unfold maxLen at hmx; omega, fun hh => (by cases hh), fun f hf => ?_⟩
  ·have hql : q < fs.length * 2 := by
    rcases Nat.lt_or_ge q (fs.length * 2) with hlt | hge
    ·exact hlt
    ·rw [List.getElem?_eq_none (by rw [Ce.fv_length]; exact hge)] at hq; cases hq
   obtain ⟨i, j, hj, rfl⟩ : ∃ i j, j < 2 ∧ q = i * 2 + j := ⟨q / 2, q % 2, by omega, by omega⟩
   have hil : i < fs.length := by omega
   obtain ⟨k0, k1, _⟩ := hfx i hil
   unfold Ce.fv at hq
   rw [Ce.rows_get Ce.fcell Ce.fcell_length hil hj] at hq
   match j, hj with
   | 0, _ =>
    injection hq with hq
    rw [← hq]
    exact k0
   | 1, _ =>
    injection hq with hq
    rw [← hq]
    exact k1
  ·obtain ⟨i, hi', rfl⟩ := List.getElem_of_mem hf
   exact (hfx i hi').2.2
def TpW (w : World) (t : Ce.Tp) : Prop := Rd w w.heap.size t.A (Ce.fv t.fs) ∧ t.fs.length ≤ t.c ∧ t.c ≤ 9223372036854775807 ∧ (t.A = none → t.c = 0) ∧ Ce.TpOk t
theorem open_types {r : Reach} {b0 : Nat} {t e tk ti tf ef ts : TypeId} {g0 g1 g2 g3 f0 f1 : Field} {v : Value} {d : DataW H} {p : List MemPlace} (ht : P.underlying t = some (.slice e)) (he : P.underlying e = some (.struct #[g0, g1, g2, g3]))
  (ce : P.cellsOf e = 4) (o0 : g0.offset = 0) (o1 : g1.offset = 1) (o2 : g2.offset = 2) (o3 : g3.offset = 3) (c0 : P.cellsOf g0.type = 1) (c1 : P.cellsOf g1.type = 1) (c2 : P.cellsOf g2.type = 1) (c3 : P.cellsOf g3.type = 1)
  (h0 : g0.type = tk) (h1 : g1.type = ti) (h2 : g2.type = ti) (h3 : g3.type = tf) (hk : P.underlying tk = some (.int .u8)) (hi : P.underlying ti = some (.int .i64))
  (hf : P.underlying tf = some (.slice ef)) (hef : P.underlying ef = some (.struct #[f0, f1])) (cef : P.cellsOf ef = 2) (of0 : f0.offset = 0) (of1 : f1.offset = 1) (cf0 : P.cellsOf f0.type = 1) (cf1 : P.cellsOf f1.type = 1) (hf0 : f0.type = ts) (hf1 : f1.type = ti) (hs : P.underlying ts = some .string)
  (hv : Value.okWide P w r b0 t v) (h : DataW.Trod enc P w base (fun _ => true) true t v d p) :
  ∃ (A : Option Addr) (T : List Ce.Tp) (c : Nat), v = .slice A T.length c ∧ Rd w w.heap.size A (Ce.tv T) ∧ T.length ≤ c ∧ c ≤ 9223372036854775807 ∧ (A = none → c = 0) ∧ ∀ x ∈ T, TpW w x := by
 obtain ⟨a, len, cap, rfl⟩ := okWide_slice ht hv
 obtain ⟨fuel, hm⟩ := h
 rcases open_slice ht hm with ⟨hcs, _⟩ | ⟨a, len, cap, m, n, D, Pl, hcs, hb, hl, hmx, hmm, _, hx⟩
 ·injection hcs with hcs _
  exact ⟨none, [], 0, hcs, Rd.nil_, by simp, by omega, fun _ => rfl, by simp⟩
 ·injection hcs with hcs _
  simp at hmm
  obtain ⟨T, hTl, hTx⟩ := list_of (m := len) (Q := fun i (x : Ce.Tp) => (∀ j v, x.v[j]? = some v → w.cell? (a.add (i * 4 + j)) = some v) ∧ TpW w x) fun i hi' => by
   obtain ⟨cs', e1, e2⟩ := hx i (by omega)
   rw [ce] at e1
   obtain ⟨_, hlen, hcell⟩ := World.cells?_some e1
   obtain ⟨xs, k, hk', hxy, _, hxl, hg⟩ := DataW.trod_struct he e2
   match xs, hxl, cs', hlen with
   | [y0, y1, y2, y3], _, [v0, v1, v2, v3], _ =>
    have q0 := hg 0 g0 rfl
    have q1 := hg 1 g1 rfl
    have q2 := hg 2 g2 rfl
    have q3 := hg 3 g3 rfl
    simp [o0, c0] at q0
    simp [o1, c1] at q1
    simp [o2, c2] at q2
    simp [o3, c3] at q3
    rw [h0] at q0
    rw [h1] at q1
    rw [h2] at q2
    rw [h3] at q3
    obtain ⟨kd, z0, _, w0⟩ := DataW.trod_int hk q0
    obtain ⟨el, z1, _, w1⟩ := DataW.trod_int hi q1
    obtain ⟨ln, z2, _, w2⟩ := DataW.trod_int hi q2
    obtain ⟨A, fs, c, z3, r1, r2, r3, r4, r5⟩ := open_fields_cell hf hef cef of0 of1 cf0 cf1 hf0 hf1 hs hi q3
    injection z0 with z0 _
    injection z1 with z1 _
    injection z2 with z2 _
    have b0 := bounds_u8 w0
    refine ⟨⟨kd, el, ln, fs, A, c⟩, fun j v hj => ?_, r1, r2, r3, r4, ⟨by show 0 ≤ kd ∧ kd < 256; omega, bounds_i64 w1, bounds_i64 w2, r5⟩⟩
    have hj4 : j < 4 := (List.getElem?_eq_some_iff.1 hj).1
    have e := hcell j hj4
    rw [add_add] at e
    rw [e, ← hj, z0, z1, z2, z3]
    rfl
  refine ⟨some a, T, cap, by rw [hTl, hcs], rd_of_cells fun q v hq => ?_, by omega, by unfold maxLen at hmx; omega, fun hh => (by cases hh), fun x hx' => ?_⟩
  ·have hql : q < T.length * 4 := by
    rcases Nat.lt_or_ge q (T.length * 4) with hlt | hge
    ·exact hlt
    ·rw [List.getElem?_eq_none (by rw [Ce.tv_length]; exact hge)] at hq; cases hq
   obtain ⟨i, j, hj, rfl⟩ : ∃ i j, j < 4 ∧ q = i * 4 + j := ⟨q / 4, q % 4, by omega, by omega⟩
   have hil : i < T.length := by omega
   unfold Ce.tv at hq
   rw [Ce.rows_get Ce.Tp.v Ce.Tp.v_length hil hj] at hq
   exact (hTx i hil).1 j v hq
  ·obtain ⟨i, hi', rfl⟩ := List.getElem_of_mem hx'
   exact (hTx i hi').2
end
namespace Ce
theorem fv_vis (B : Nat) (fs : List (List UInt8 × Int)) : (fv fs).map (vis B) = fv fs := by
 unfold fv
 rw [List.map_flatMap]
 congr 1
theorem fields_here {w : World} {A : Option Addr} {c : Nat} {fs : List (List UInt8 × Int)} (h : Rd w w.heap.size A (fv fs)) (hc : fs.length ≤ c) (hm : c ≤ 9223372036854775807) (h0 : A = none → c = 0) :
  ∃ A' c', vis w.heap.size (.slice A fs.length c) = .slice A' fs.length c' ∧ RdH (absW w) w.heap.size A' (fv fs) ∧ (A' = none → c' = 0) := by
 obtain ⟨A', c', h1, h2, _, h3, _⟩ := rd_here h (fun hh => by have := fv_length fs; rw [hh] at this; simp at this; omega) hc hm h0
 rw [fv_vis] at h2
 exact ⟨A', c', h1, h2, h3⟩
theorem types_vis {w : World} : ∀ T : List Tp, (∀ t ∈ T, TpW w t) → ∃ T' : List Tp, T'.length = T.length ∧ (tv T).map (vis w.heap.size) = tv T' ∧ ∀ t ∈ T', RdH (absW w) w.heap.size t.A (fv t.fs) ∧ (t.A = none → t.c = 0) ∧ TpOk t ∧ t.fs.length ≤ 9223372036854775807
 | [], _ => ⟨[], rfl, rfl, by simp⟩
 | t :: T, h => by
  obtain ⟨T', i1, i2, i3⟩ := types_vis T fun x hx => h x (List.mem_cons_of_mem _ hx)
  obtain ⟨t1, t2, t3, t4, t5⟩ := h t List.mem_cons_self
  obtain ⟨A', c', e1, e2, e3⟩ := fields_here t1 t2 t3 t4
  refine ⟨⟨t.kd, t.el, t.ln, t.fs, A', c'⟩ :: T', by simp [i1], ?_, fun x hx => ?_⟩
  ·unfold tv at i2 ⊢
   rw [List.flatMap_cons, List.flatMap_cons, List.map_append, i2]
   congr 1
   unfold Tp.v
   simp only [List.map_cons, List.map_nil, e1]
   rfl
  ·rcases List.mem_cons.1 hx with rfl | hx
   ·exact ⟨e2, e3, t5, by show t.fs.length ≤ _; omega⟩
   ·exact i3 x hx
theorem types_here {w : World} {A : Option Addr} {c : Nat} {T : List Tp} (h : Rd w w.heap.size A (tv T)) (hc : T.length ≤ c) (hm : c ≤ 9223372036854775807) (h0 : A = none → c = 0) (ht : ∀ t ∈ T, TpW w t) :
  ∃ A' c' T', vis w.heap.size (.slice A T.length c) = .slice A' (List.length T') c' ∧ TabH (absW w) w.heap.size A' T' ∧ (A' = none → c' = 0) ∧ T'.length ≤ 9223372036854775807 ∧ ∀ t ∈ T', t.fs.length ≤ 9223372036854775807 := by
 obtain ⟨A', c', h1, h2, _, h3, _⟩ := rd_here h (fun hh => by have := tv_length T; rw [hh] at this; simp at this; omega) hc hm h0
 obtain ⟨T', i1, i2, i3⟩ := types_vis T ht
 rw [i2] at h2
 exact ⟨A', c', T', by rw [i1]; exact h1, ⟨h2, fun t ht => (i3 t ht).1, fun t ht => (i3 t ht).2.1, fun t ht => (i3 t ht).2.2.1⟩, h3, by omega, fun t ht => (i3 t ht).2.2.2⟩
end Ce
end Go.Proofs.Ytcpkdjikembpnaa
