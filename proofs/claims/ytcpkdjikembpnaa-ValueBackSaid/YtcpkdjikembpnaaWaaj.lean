/- Parts of the proof of ValueBack: Ty, Sa, Pa. No condition of its own. -/
import Derived.Test.YtcpkdjikembpnaaProg
import Derived.IntWalk
import Derived.Test.YtcpkdjikembpnaaWaaa
import Derived.Test.YtcpkdjikembpnaaWaai
set_option linter.unusedVariables false
set_option linter.unusedSimpArgs false
set_option maxRecDepth 1000000
set_option maxHeartbeats 4000000
namespace Go.Proofs.Ytcpkdjikembpnaa.Ce
open Go.RowKit
def WW:FuncId→Bool:=fun f=>Nat.beq f 57
abbrev SQ (k d cl:Nat) (g:FuncId) (args:List Value) (h:Hp) (n:Nat) (Φ:Value→Hp→Nat→Prop):Prop:=Sp Go.Proofs.Try.prog (acall Go.Proofs.Try.prog WW k d) cl g args h n Φ
theorem al130 {h:Hp} {n:Nat}:mAlloc Go.Proofs.Try.prog 130 h n=some ⟨.pointer (some ⟨n,0,none⟩),h.set n (.row 130 false [Value.nilFunc]),n+1,[],[]⟩:=m_alloc kz rfl kz
theorem al29 {h:Hp} {n:Nat}:mAlloc Go.Proofs.Try.prog 29 h n=some ⟨.pointer (some ⟨n,0,none⟩),h.set n (.row 29 false [Value.int IntKind.u64 0,Value.slice none 0 0]),n+1,[],[]⟩:=m_alloc kz rfl kz
theorem al32 {h:Hp} {n:Nat}:mAlloc Go.Proofs.Try.prog 32 h n=some ⟨.pointer (some ⟨n,0,none⟩),h.set n (.row 32 false [Value.int IntKind.u8 0,Value.int IntKind.i64 0,Value.string { data:={ toList:=[] } },Value.slice none 0 0,Value.bool false]),n+1,[],[]⟩:=m_alloc kz rfl kz
theorem al64 {h:Hp} {n:Nat}:mAlloc Go.Proofs.Try.prog 64 h n=some ⟨.pointer (some ⟨n,0,none⟩),h.set n (.row 64 false [Value.int IntKind.u8 0,Value.int IntKind.i64 0,Value.int IntKind.i64 0,Value.slice none 0 0]),n+1,[],[]⟩:=m_alloc kz rfl kz
theorem al71 {h:Hp} {n:Nat}:mAlloc Go.Proofs.Try.prog 71 h n=some ⟨.pointer (some ⟨n,0,none⟩),h.set n (.row 71 false [Value.string { data:={ toList:=[] } },Value.int IntKind.i64 0]),n+1,[],[]⟩:=m_alloc kz rfl kz
theorem al93 {h:Hp} {n:Nat}:mAlloc Go.Proofs.Try.prog 93 h n=some ⟨.pointer (some ⟨n,0,none⟩),h.set n (.row 93 false [Value.int IntKind.i64 0,Value.int IntKind.i64 0]),n+1,[],[]⟩:=m_alloc kz rfl kz
theorem apT27:ApT Go.Proofs.Try.prog 27 5 1:=apT_of (z:=[Value.int IntKind.u8 0]) kz kz kz rfl rfl kz
theorem apT30:ApT Go.Proofs.Try.prog 30 32 5:=apT_of (z:=[Value.int IntKind.u8 0,Value.int IntKind.i64 0,Value.string { data:={ toList:=[] } },Value.slice none 0 0,Value.bool false]) kz kz kz rfl rfl kz
theorem apT99:ApT Go.Proofs.Try.prog 99 3 1:=apT_of (z:=[Value.int IntKind.i64 0]) kz kz kz rfl rfl kz
theorem bx22 {h:Hp} {n:Nat} {cs:List Value}:mNew Go.Proofs.Try.prog 22 cs h n=bif (cs.length == 1) && cs.all cok then some ⟨.pointer (some ⟨n,0,none⟩),h.set n (.row 22 false cs),n+1,[],[]⟩ else none:=m_newq kz
theorem bx29 {h:Hp} {n:Nat} {cs:List Value}:mNew Go.Proofs.Try.prog 29 cs h n=bif (cs.length == 2) && cs.all cok then some ⟨.pointer (some ⟨n,0,none⟩),h.set n (.row 29 false cs),n+1,[],[]⟩ else none:=m_newq kz
theorem bx3 {h:Hp} {n:Nat} {cs:List Value}:mNew Go.Proofs.Try.prog 3 cs h n=bif (cs.length == 1) && cs.all cok then some ⟨.pointer (some ⟨n,0,none⟩),h.set n (.row 3 false cs),n+1,[],[]⟩ else none:=m_newq kz
theorem bx32 {h:Hp} {n:Nat} {cs:List Value}:mNew Go.Proofs.Try.prog 32 cs h n=bif (cs.length == 5) && cs.all cok then some ⟨.pointer (some ⟨n,0,none⟩),h.set n (.row 32 false cs),n+1,[],[]⟩ else none:=m_newq kz
theorem bx64 {h:Hp} {n:Nat} {cs:List Value}:mNew Go.Proofs.Try.prog 64 cs h n=bif (cs.length == 4) && cs.all cok then some ⟨.pointer (some ⟨n,0,none⟩),h.set n (.row 64 false cs),n+1,[],[]⟩ else none:=m_newq kz
theorem bx78 {h:Hp} {n:Nat} {cs:List Value}:mNew Go.Proofs.Try.prog 78 cs h n=bif (cs.length == 2) && cs.all cok then some ⟨.pointer (some ⟨n,0,none⟩),h.set n (.row 78 false cs),n+1,[],[]⟩ else none:=m_newq kz
theorem bu29 {h:Hp} {n:Nat} (parts:List (Nat × Value)):mBuild Go.Proofs.Try.prog 29 parts h n=(fillL (lget [(0,1),(1,1)]) [Value.int IntKind.u64 0,Value.slice none 0 0] parts).bind fun cells=>mV (.agg ⟨cells⟩) h n:=m_build kz kz parts
theorem bu32 {h:Hp} {n:Nat} (parts:List (Nat × Value)):mBuild Go.Proofs.Try.prog 32 parts h n=(fillL (lget [(0,1),(1,1),(2,1),(3,1),(4,1)]) [Value.int IntKind.u8 0,Value.int IntKind.i64 0,Value.string { data:={ toList:=[] } },Value.slice none 0 0,Value.bool false] parts).bind fun cells=>mV (.agg ⟨cells⟩) h n:=m_build kz kz parts
theorem bu64 {h:Hp} {n:Nat} (parts:List (Nat × Value)):mBuild Go.Proofs.Try.prog 64 parts h n=(fillL (lget [(0,1),(1,1),(2,1),(3,1)]) [Value.int IntKind.u8 0,Value.int IntKind.i64 0,Value.int IntKind.i64 0,Value.slice none 0 0] parts).bind fun cells=>mV (.agg ⟨cells⟩) h n:=m_build kz kz parts
theorem bu71 {h:Hp} {n:Nat} (parts:List (Nat × Value)):mBuild Go.Proofs.Try.prog 71 parts h n=(fillL (lget [(0,1),(1,1)]) [Value.string { data:={ toList:=[] } },Value.int IntKind.i64 0] parts).bind fun cells=>mV (.agg ⟨cells⟩) h n:=m_build kz kz parts
theorem bu78 {h:Hp} {n:Nat} (parts:List (Nat × Value)):mBuild Go.Proofs.Try.prog 78 parts h n=(fillL (lget [(0,1),(1,1)]) [Value.slice none 0 0,Value.slice none 0 0] parts).bind fun cells=>mV (.agg ⟨cells⟩) h n:=m_build kz kz parts
theorem bu93 {h:Hp} {n:Nat} (parts:List (Nat × Value)):mBuild Go.Proofs.Try.prog 93 parts h n=(fillL (lget [(0,1),(1,1)]) [Value.int IntKind.i64 0,Value.int IntKind.i64 0] parts).bind fun cells=>mV (.agg ⟨cells⟩) h n:=m_build kz kz parts
theorem bs22_1 {h:Hp} {n:Nat} (parts:List (Nat × Value)):mBuildSlice Go.Proofs.Try.prog 22 1 parts h n=(fillL (fun i=>some (i*4,4)) [Value.int IntKind.u8 0,Value.int IntKind.i64 0,Value.int IntKind.i64 0,Value.slice none 0 0] parts).bind fun cells=>bif cells.all cok then some ⟨.slice (some ⟨n,0,none⟩) 1 1,h.set n (.row 64 false cells),n+1,[],[]⟩ else none:=m_bs (e:=64) (z:=[Value.int IntKind.u8 0,Value.int IntKind.i64 0,Value.int IntKind.i64 0,Value.slice none 0 0]) kz kz kz rfl rfl 1 rfl parts
theorem bs23_1 {h:Hp} {n:Nat} (parts:List (Nat × Value)):mBuildSlice Go.Proofs.Try.prog 23 1 parts h n=(fillL (fun i=>some (i*2,2)) [Value.int IntKind.u64 0,Value.slice none 0 0] parts).bind fun cells=>bif cells.all cok then some ⟨.slice (some ⟨n,0,none⟩) 1 1,h.set n (.row 29 false cells),n+1,[],[]⟩ else none:=m_bs (e:=29) (z:=[Value.int IntKind.u64 0,Value.slice none 0 0]) kz kz kz rfl rfl 1 rfl parts
theorem bs23_2 {h:Hp} {n:Nat} (parts:List (Nat × Value)):mBuildSlice Go.Proofs.Try.prog 23 2 parts h n=(fillL (fun i=>some (i*2,2)) [Value.int IntKind.u64 0,Value.slice none 0 0,Value.int IntKind.u64 0,Value.slice none 0 0] parts).bind fun cells=>bif cells.all cok then some ⟨.slice (some ⟨n,0,none⟩) 2 2,h.set n (.row 29 false cells),n+1,[],[]⟩ else none:=m_bs (e:=29) (z:=[Value.int IntKind.u64 0,Value.slice none 0 0]) kz kz kz rfl rfl 2 rfl parts
theorem bs27_0 {h:Hp} {n:Nat} (parts:List (Nat × Value)):mBuildSlice Go.Proofs.Try.prog 27 0 parts h n=(fillL (fun i=>some (i*1,1)) [] parts).bind fun cells=>bif cells.all cok then some ⟨.slice (some ⟨n,0,none⟩) 0 0,h.set n (.row 5 false cells),n+1,[],[]⟩ else none:=m_bs (e:=5) (z:=[Value.int IntKind.u8 0]) kz kz kz rfl rfl 0 rfl parts
theorem bs27_1 {h:Hp} {n:Nat} (parts:List (Nat × Value)):mBuildSlice Go.Proofs.Try.prog 27 1 parts h n=(fillL (fun i=>some (i*1,1)) [Value.int IntKind.u8 0] parts).bind fun cells=>bif cells.all cok then some ⟨.slice (some ⟨n,0,none⟩) 1 1,h.set n (.row 5 false cells),n+1,[],[]⟩ else none:=m_bs (e:=5) (z:=[Value.int IntKind.u8 0]) kz kz kz rfl rfl 1 rfl parts
theorem bs30_1 {h:Hp} {n:Nat} (parts:List (Nat × Value)):mBuildSlice Go.Proofs.Try.prog 30 1 parts h n=(fillL (fun i=>some (i*5,5)) [Value.int IntKind.u8 0,Value.int IntKind.i64 0,Value.string { data:={ toList:=[] } },Value.slice none 0 0,Value.bool false] parts).bind fun cells=>bif cells.all cok then some ⟨.slice (some ⟨n,0,none⟩) 1 1,h.set n (.row 32 false cells),n+1,[],[]⟩ else none:=m_bs (e:=32) (z:=[Value.int IntKind.u8 0,Value.int IntKind.i64 0,Value.string { data:={ toList:=[] } },Value.slice none 0 0,Value.bool false]) kz kz kz rfl rfl 1 rfl parts
theorem bs30_2 {h:Hp} {n:Nat} (parts:List (Nat × Value)):mBuildSlice Go.Proofs.Try.prog 30 2 parts h n=(fillL (fun i=>some (i*5,5)) [Value.int IntKind.u8 0,Value.int IntKind.i64 0,Value.string { data:={ toList:=[] } },Value.slice none 0 0,Value.bool false,Value.int IntKind.u8 0,Value.int IntKind.i64 0,Value.string { data:={ toList:=[] } },Value.slice none 0 0,Value.bool false] parts).bind fun cells=>bif cells.all cok then some ⟨.slice (some ⟨n,0,none⟩) 2 2,h.set n (.row 32 false cells),n+1,[],[]⟩ else none:=m_bs (e:=32) (z:=[Value.int IntKind.u8 0,Value.int IntKind.i64 0,Value.string { data:={ toList:=[] } },Value.slice none 0 0,Value.bool false]) kz kz kz rfl rfl 2 rfl parts
theorem bs62_2 {h:Hp} {n:Nat} (parts:List (Nat × Value)):mBuildSlice Go.Proofs.Try.prog 62 2 parts h n=(fillL (fun i=>some (i*2,2)) [Value.string { data:={ toList:=[] } },Value.int IntKind.i64 0,Value.string { data:={ toList:=[] } },Value.int IntKind.i64 0] parts).bind fun cells=>bif cells.all cok then some ⟨.slice (some ⟨n,0,none⟩) 2 2,h.set n (.row 71 false cells),n+1,[],[]⟩ else none:=m_bs (e:=71) (z:=[Value.string { data:={ toList:=[] } },Value.int IntKind.i64 0]) kz kz kz rfl rfl 2 rfl parts
theorem bs97_1 {h:Hp} {n:Nat} (parts:List (Nat × Value)):mBuildSlice Go.Proofs.Try.prog 97 1 parts h n=(fillL (fun i=>some (i*1,1)) [Value.int IntKind.u64 0] parts).bind fun cells=>bif cells.all cok then some ⟨.slice (some ⟨n,0,none⟩) 1 1,h.set n (.row 24 false cells),n+1,[],[]⟩ else none:=m_bs (e:=24) (z:=[Value.int IntKind.u64 0]) kz kz kz rfl rfl 1 rfl parts
theorem bs97_2 {h:Hp} {n:Nat} (parts:List (Nat × Value)):mBuildSlice Go.Proofs.Try.prog 97 2 parts h n=(fillL (fun i=>some (i*1,1)) [Value.int IntKind.u64 0,Value.int IntKind.u64 0] parts).bind fun cells=>bif cells.all cok then some ⟨.slice (some ⟨n,0,none⟩) 2 2,h.set n (.row 24 false cells),n+1,[],[]⟩ else none:=m_bs (e:=24) (z:=[Value.int IntKind.u64 0]) kz kz kz rfl rfl 2 rfl parts
theorem bs97_3 {h:Hp} {n:Nat} (parts:List (Nat × Value)):mBuildSlice Go.Proofs.Try.prog 97 3 parts h n=(fillL (fun i=>some (i*1,1)) [Value.int IntKind.u64 0,Value.int IntKind.u64 0,Value.int IntKind.u64 0] parts).bind fun cells=>bif cells.all cok then some ⟨.slice (some ⟨n,0,none⟩) 3 3,h.set n (.row 24 false cells),n+1,[],[]⟩ else none:=m_bs (e:=24) (z:=[Value.int IntKind.u64 0]) kz kz kz rfl rfl 3 rfl parts
theorem bs99_1 {h:Hp} {n:Nat} (parts:List (Nat × Value)):mBuildSlice Go.Proofs.Try.prog 99 1 parts h n=(fillL (fun i=>some (i*1,1)) [Value.int IntKind.i64 0] parts).bind fun cells=>bif cells.all cok then some ⟨.slice (some ⟨n,0,none⟩) 1 1,h.set n (.row 3 false cells),n+1,[],[]⟩ else none:=m_bs (e:=3) (z:=[Value.int IntKind.i64 0]) kz kz kz rfl rfl 1 rfl parts
theorem bs99_2 {h:Hp} {n:Nat} (parts:List (Nat × Value)):mBuildSlice Go.Proofs.Try.prog 99 2 parts h n=(fillL (fun i=>some (i*1,1)) [Value.int IntKind.i64 0,Value.int IntKind.i64 0] parts).bind fun cells=>bif cells.all cok then some ⟨.slice (some ⟨n,0,none⟩) 2 2,h.set n (.row 3 false cells),n+1,[],[]⟩ else none:=m_bs (e:=3) (z:=[Value.int IntKind.i64 0]) kz kz kz rfl rfl 2 rfl parts
theorem bs99_3 {h:Hp} {n:Nat} (parts:List (Nat × Value)):mBuildSlice Go.Proofs.Try.prog 99 3 parts h n=(fillL (fun i=>some (i*1,1)) [Value.int IntKind.i64 0,Value.int IntKind.i64 0,Value.int IntKind.i64 0] parts).bind fun cells=>bif cells.all cok then some ⟨.slice (some ⟨n,0,none⟩) 3 3,h.set n (.row 3 false cells),n+1,[],[]⟩ else none:=m_bs (e:=3) (z:=[Value.int IntKind.i64 0]) kz kz kz rfl rfl 3 rfl parts
theorem cv2_24 {h:Hp} {n:Nat} {a:Int} {k2:IntKind}:mConvert Go.Proofs.Try.prog 2 24 (.int k2 a) h n=some ⟨.int IntKind.u64 (IntKind.wrap IntKind.u64 a),h,n,[],[]⟩:=c_int kz kz
theorem cv2_5 {h:Hp} {n:Nat} {a:Int} {k2:IntKind}:mConvert Go.Proofs.Try.prog 2 5 (.int k2 a) h n=some ⟨.int IntKind.u8 (IntKind.wrap IntKind.u8 a),h,n,[],[]⟩:=c_int kz kz
theorem cv24_2 {h:Hp} {n:Nat} {a:Int} {k2:IntKind}:mConvert Go.Proofs.Try.prog 24 2 (.int k2 a) h n=some ⟨.int IntKind.i64 (IntKind.wrap IntKind.i64 a),h,n,[],[]⟩:=c_int kz kz
theorem cv24_3 {h:Hp} {n:Nat} {a:Int} {k2:IntKind}:mConvert Go.Proofs.Try.prog 24 3 (.int k2 a) h n=some ⟨.int IntKind.i64 (IntKind.wrap IntKind.i64 a),h,n,[],[]⟩:=c_int kz kz
theorem cv24_5 {h:Hp} {n:Nat} {a:Int} {k2:IntKind}:mConvert Go.Proofs.Try.prog 24 5 (.int k2 a) h n=some ⟨.int IntKind.u8 (IntKind.wrap IntKind.u8 a),h,n,[],[]⟩:=c_int kz kz
theorem b2T27_9:(∃ e,tyElem Go.Proofs.Try.prog 27=some e∧tyU8 Go.Proofs.Try.prog e=true)∧tyStr Go.Proofs.Try.prog 9=true:=⟨⟨5,kz,kz⟩,kz⟩
theorem cv3_24 {h:Hp} {n:Nat} {a:Int} {k2:IntKind}:mConvert Go.Proofs.Try.prog 3 24 (.int k2 a) h n=some ⟨.int IntKind.u64 (IntKind.wrap IntKind.u64 a),h,n,[],[]⟩:=c_int kz kz
theorem cv5_2 {h:Hp} {n:Nat} {a:Int} {k2:IntKind}:mConvert Go.Proofs.Try.prog 5 2 (.int k2 a) h n=some ⟨.int IntKind.i64 (IntKind.wrap IntKind.i64 a),h,n,[],[]⟩:=c_int kz kz
theorem cv5_24 {h:Hp} {n:Nat} {a:Int} {k2:IntKind}:mConvert Go.Proofs.Try.prog 5 24 (.int k2 a) h n=some ⟨.int IntKind.u64 (IntKind.wrap IntKind.u64 a),h,n,[],[]⟩:=c_int kz kz
theorem cv9_27 {h:Hp} {n:Nat} {x:ByteArray} (hx:x.size≤1000000):mConvert Go.Proofs.Try.prog 9 27 (.string x) h n=some ⟨.slice (some ⟨n,0,none⟩) x.size x.size,h.set n (.row 5 true (bvals x)),n+1,[],[]⟩:=m_s2b (e:=5) kz kz kz hx
theorem cpT27:tyElem Go.Proofs.Try.prog 27=some 5∧tySize Go.Proofs.Try.prog 5=some 1:=⟨kz,kz⟩
theorem fa29_0 {h:Hp} {n:Nat} {id off:Nat}:mFieldAddr Go.Proofs.Try.prog 29 (.pointer (some ⟨id,off,none⟩)) 0 h n=some ⟨.pointer (some ⟨id,off+0,none⟩),h,n,[],[]⟩:=m_field (fs:=[(0,1),(1,1)]) kz rfl rfl
theorem fa29_1 {h:Hp} {n:Nat} {id off:Nat}:mFieldAddr Go.Proofs.Try.prog 29 (.pointer (some ⟨id,off,none⟩)) 1 h n=some ⟨.pointer (some ⟨id,off+1,none⟩),h,n,[],[]⟩:=m_field (fs:=[(0,1),(1,1)]) kz rfl rfl
theorem fa32_0 {h:Hp} {n:Nat} {id off:Nat}:mFieldAddr Go.Proofs.Try.prog 32 (.pointer (some ⟨id,off,none⟩)) 0 h n=some ⟨.pointer (some ⟨id,off+0,none⟩),h,n,[],[]⟩:=m_field (fs:=[(0,1),(1,1),(2,1),(3,1),(4,1)]) kz rfl rfl
theorem fa32_1 {h:Hp} {n:Nat} {id off:Nat}:mFieldAddr Go.Proofs.Try.prog 32 (.pointer (some ⟨id,off,none⟩)) 1 h n=some ⟨.pointer (some ⟨id,off+1,none⟩),h,n,[],[]⟩:=m_field (fs:=[(0,1),(1,1),(2,1),(3,1),(4,1)]) kz rfl rfl
theorem fa32_2 {h:Hp} {n:Nat} {id off:Nat}:mFieldAddr Go.Proofs.Try.prog 32 (.pointer (some ⟨id,off,none⟩)) 2 h n=some ⟨.pointer (some ⟨id,off+2,none⟩),h,n,[],[]⟩:=m_field (fs:=[(0,1),(1,1),(2,1),(3,1),(4,1)]) kz rfl rfl
theorem fa32_3 {h:Hp} {n:Nat} {id off:Nat}:mFieldAddr Go.Proofs.Try.prog 32 (.pointer (some ⟨id,off,none⟩)) 3 h n=some ⟨.pointer (some ⟨id,off+3,none⟩),h,n,[],[]⟩:=m_field (fs:=[(0,1),(1,1),(2,1),(3,1),(4,1)]) kz rfl rfl
theorem fa32_4 {h:Hp} {n:Nat} {id off:Nat}:mFieldAddr Go.Proofs.Try.prog 32 (.pointer (some ⟨id,off,none⟩)) 4 h n=some ⟨.pointer (some ⟨id,off+4,none⟩),h,n,[],[]⟩:=m_field (fs:=[(0,1),(1,1),(2,1),(3,1),(4,1)]) kz rfl rfl
theorem fa64_0 {h:Hp} {n:Nat} {id off:Nat}:mFieldAddr Go.Proofs.Try.prog 64 (.pointer (some ⟨id,off,none⟩)) 0 h n=some ⟨.pointer (some ⟨id,off+0,none⟩),h,n,[],[]⟩:=m_field (fs:=[(0,1),(1,1),(2,1),(3,1)]) kz rfl rfl
theorem fa64_1 {h:Hp} {n:Nat} {id off:Nat}:mFieldAddr Go.Proofs.Try.prog 64 (.pointer (some ⟨id,off,none⟩)) 1 h n=some ⟨.pointer (some ⟨id,off+1,none⟩),h,n,[],[]⟩:=m_field (fs:=[(0,1),(1,1),(2,1),(3,1)]) kz rfl rfl
theorem fa64_2 {h:Hp} {n:Nat} {id off:Nat}:mFieldAddr Go.Proofs.Try.prog 64 (.pointer (some ⟨id,off,none⟩)) 2 h n=some ⟨.pointer (some ⟨id,off+2,none⟩),h,n,[],[]⟩:=m_field (fs:=[(0,1),(1,1),(2,1),(3,1)]) kz rfl rfl
theorem fa64_3 {h:Hp} {n:Nat} {id off:Nat}:mFieldAddr Go.Proofs.Try.prog 64 (.pointer (some ⟨id,off,none⟩)) 3 h n=some ⟨.pointer (some ⟨id,off+3,none⟩),h,n,[],[]⟩:=m_field (fs:=[(0,1),(1,1),(2,1),(3,1)]) kz rfl rfl
theorem fa71_0 {h:Hp} {n:Nat} {id off:Nat}:mFieldAddr Go.Proofs.Try.prog 71 (.pointer (some ⟨id,off,none⟩)) 0 h n=some ⟨.pointer (some ⟨id,off+0,none⟩),h,n,[],[]⟩:=m_field (fs:=[(0,1),(1,1)]) kz rfl rfl
theorem fa71_1 {h:Hp} {n:Nat} {id off:Nat}:mFieldAddr Go.Proofs.Try.prog 71 (.pointer (some ⟨id,off,none⟩)) 1 h n=some ⟨.pointer (some ⟨id,off+1,none⟩),h,n,[],[]⟩:=m_field (fs:=[(0,1),(1,1)]) kz rfl rfl
theorem fa78_0 {h:Hp} {n:Nat} {id off:Nat}:mFieldAddr Go.Proofs.Try.prog 78 (.pointer (some ⟨id,off,none⟩)) 0 h n=some ⟨.pointer (some ⟨id,off+0,none⟩),h,n,[],[]⟩:=m_field (fs:=[(0,1),(1,1)]) kz rfl rfl
theorem fa78_1 {h:Hp} {n:Nat} {id off:Nat}:mFieldAddr Go.Proofs.Try.prog 78 (.pointer (some ⟨id,off,none⟩)) 1 h n=some ⟨.pointer (some ⟨id,off+1,none⟩),h,n,[],[]⟩:=m_field (fs:=[(0,1),(1,1)]) kz rfl rfl
theorem fa93_0 {h:Hp} {n:Nat} {id off:Nat}:mFieldAddr Go.Proofs.Try.prog 93 (.pointer (some ⟨id,off,none⟩)) 0 h n=some ⟨.pointer (some ⟨id,off+0,none⟩),h,n,[],[]⟩:=m_field (fs:=[(0,1),(1,1)]) kz rfl rfl
theorem fa93_1 {h:Hp} {n:Nat} {id off:Nat}:mFieldAddr Go.Proofs.Try.prog 93 (.pointer (some ⟨id,off,none⟩)) 1 h n=some ⟨.pointer (some ⟨id,off+1,none⟩),h,n,[],[]⟩:=m_field (fs:=[(0,1),(1,1)]) kz rfl rfl
theorem ix136 {h:Hp} {n:Nat} {k:IntKind} {id off len c:Nat} {i:Int} (h0:0≤i) (h1:i<len):mIndexAddr Go.Proofs.Try.prog 136 (.slice (some ⟨id,off,none⟩) len c) (.int k i) h n=some ⟨.pointer (some ⟨id,off+i.toNat*1,none⟩),h,n,[],[]⟩:=m_ix (e:=4) kz kz h0 h1
theorem ix22 {h:Hp} {n:Nat} {k:IntKind} {id off len c:Nat} {i:Int} (h0:0≤i) (h1:i<len):mIndexAddr Go.Proofs.Try.prog 22 (.slice (some ⟨id,off,none⟩) len c) (.int k i) h n=some ⟨.pointer (some ⟨id,off+i.toNat*4,none⟩),h,n,[],[]⟩:=m_ix (e:=64) kz kz h0 h1
theorem ix23 {h:Hp} {n:Nat} {k:IntKind} {id off len c:Nat} {i:Int} (h0:0≤i) (h1:i<len):mIndexAddr Go.Proofs.Try.prog 23 (.slice (some ⟨id,off,none⟩) len c) (.int k i) h n=some ⟨.pointer (some ⟨id,off+i.toNat*2,none⟩),h,n,[],[]⟩:=m_ix (e:=29) kz kz h0 h1
theorem ix27 {h:Hp} {n:Nat} {k:IntKind} {id off len c:Nat} {i:Int} (h0:0≤i) (h1:i<len):mIndexAddr Go.Proofs.Try.prog 27 (.slice (some ⟨id,off,none⟩) len c) (.int k i) h n=some ⟨.pointer (some ⟨id,off+i.toNat*1,none⟩),h,n,[],[]⟩:=m_ix (e:=5) kz kz h0 h1
theorem ix30 {h:Hp} {n:Nat} {k:IntKind} {id off len c:Nat} {i:Int} (h0:0≤i) (h1:i<len):mIndexAddr Go.Proofs.Try.prog 30 (.slice (some ⟨id,off,none⟩) len c) (.int k i) h n=some ⟨.pointer (some ⟨id,off+i.toNat*5,none⟩),h,n,[],[]⟩:=m_ix (e:=32) kz kz h0 h1
theorem ix62 {h:Hp} {n:Nat} {k:IntKind} {id off len c:Nat} {i:Int} (h0:0≤i) (h1:i<len):mIndexAddr Go.Proofs.Try.prog 62 (.slice (some ⟨id,off,none⟩) len c) (.int k i) h n=some ⟨.pointer (some ⟨id,off+i.toNat*2,none⟩),h,n,[],[]⟩:=m_ix (e:=71) kz kz h0 h1
theorem ix89 {h:Hp} {n:Nat} {k:IntKind} {id off len c:Nat} {i:Int} (h0:0≤i) (h1:i<len):mIndexAddr Go.Proofs.Try.prog 89 (.slice (some ⟨id,off,none⟩) len c) (.int k i) h n=some ⟨.pointer (some ⟨id,off+i.toNat*2,none⟩),h,n,[],[]⟩:=m_ix (e:=93) kz kz h0 h1
theorem ix97 {h:Hp} {n:Nat} {k:IntKind} {id off len c:Nat} {i:Int} (h0:0≤i) (h1:i<len):mIndexAddr Go.Proofs.Try.prog 97 (.slice (some ⟨id,off,none⟩) len c) (.int k i) h n=some ⟨.pointer (some ⟨id,off+i.toNat*1,none⟩),h,n,[],[]⟩:=m_ix (e:=24) kz kz h0 h1
theorem ix99 {h:Hp} {n:Nat} {k:IntKind} {id off len c:Nat} {i:Int} (h0:0≤i) (h1:i<len):mIndexAddr Go.Proofs.Try.prog 99 (.slice (some ⟨id,off,none⟩) len c) (.int k i) h n=some ⟨.pointer (some ⟨id,off+i.toNat*1,none⟩),h,n,[],[]⟩:=m_ix (e:=3) kz kz h0 h1
theorem ln136 {h:Hp} {n:Nat} {A:Option Addr} {m c:Nat}:mLen Go.Proofs.Try.prog 136 (.slice A m c) h n=some ⟨.int .i64 m,h,n,[],[]⟩:=m_len (e:=4) kz
theorem ln22 {h:Hp} {n:Nat} {A:Option Addr} {m c:Nat}:mLen Go.Proofs.Try.prog 22 (.slice A m c) h n=some ⟨.int .i64 m,h,n,[],[]⟩:=m_len (e:=64) kz
theorem ln23 {h:Hp} {n:Nat} {A:Option Addr} {m c:Nat}:mLen Go.Proofs.Try.prog 23 (.slice A m c) h n=some ⟨.int .i64 m,h,n,[],[]⟩:=m_len (e:=29) kz
theorem ln27 {h:Hp} {n:Nat} {A:Option Addr} {m c:Nat}:mLen Go.Proofs.Try.prog 27 (.slice A m c) h n=some ⟨.int .i64 m,h,n,[],[]⟩:=m_len (e:=5) kz
theorem ln30 {h:Hp} {n:Nat} {A:Option Addr} {m c:Nat}:mLen Go.Proofs.Try.prog 30 (.slice A m c) h n=some ⟨.int .i64 m,h,n,[],[]⟩:=m_len (e:=32) kz
theorem ln62 {h:Hp} {n:Nat} {A:Option Addr} {m c:Nat}:mLen Go.Proofs.Try.prog 62 (.slice A m c) h n=some ⟨.int .i64 m,h,n,[],[]⟩:=m_len (e:=71) kz
theorem ln9 {h:Hp} {n:Nat} {s:ByteArray}:mLen Go.Proofs.Try.prog 9 (.string s) h n=some ⟨.int .i64 s.size,h,n,[],[]⟩:=m_lenS kz
theorem ln97 {h:Hp} {n:Nat} {A:Option Addr} {m c:Nat}:mLen Go.Proofs.Try.prog 97 (.slice A m c) h n=some ⟨.int .i64 m,h,n,[],[]⟩:=m_len (e:=24) kz
theorem ln99 {h:Hp} {n:Nat} {A:Option Addr} {m c:Nat}:mLen Go.Proofs.Try.prog 99 (.slice A m c) h n=some ⟨.int .i64 m,h,n,[],[]⟩:=m_len (e:=3) kz
theorem ld130 {h:Hp} {n:Nat} {id off:Nat}:mLoad Go.Proofs.Try.prog 130 (.pointer (some ⟨id,off,none⟩)) h n=(cellAt h id off).bind fun v=>some ⟨v,h,n,[id],[]⟩:=m_load1 kz
theorem ld2 {h:Hp} {n:Nat} {id off:Nat}:mLoad Go.Proofs.Try.prog 2 (.pointer (some ⟨id,off,none⟩)) h n=(cellAt h id off).bind fun v=>some ⟨v,h,n,[id],[]⟩:=m_load1 kz
theorem ld22 {h:Hp} {n:Nat} {id off:Nat}:mLoad Go.Proofs.Try.prog 22 (.pointer (some ⟨id,off,none⟩)) h n=(cellAt h id off).bind fun v=>some ⟨v,h,n,[id],[]⟩:=m_load1 kz
theorem ld23 {h:Hp} {n:Nat} {id off:Nat}:mLoad Go.Proofs.Try.prog 23 (.pointer (some ⟨id,off,none⟩)) h n=(cellAt h id off).bind fun v=>some ⟨v,h,n,[id],[]⟩:=m_load1 kz
theorem ld24 {h:Hp} {n:Nat} {id off:Nat}:mLoad Go.Proofs.Try.prog 24 (.pointer (some ⟨id,off,none⟩)) h n=(cellAt h id off).bind fun v=>some ⟨v,h,n,[id],[]⟩:=m_load1 kz
theorem ld27 {h:Hp} {n:Nat} {id off:Nat}:mLoad Go.Proofs.Try.prog 27 (.pointer (some ⟨id,off,none⟩)) h n=(cellAt h id off).bind fun v=>some ⟨v,h,n,[id],[]⟩:=m_load1 kz
theorem ld29 {h:Hp} {n:Nat} {id off:Nat}:mLoad Go.Proofs.Try.prog 29 (.pointer (some ⟨id,off,none⟩)) h n=(cellsAt h id off 2).bind fun cs=>some ⟨.agg ⟨cs⟩,h,n,[id],[]⟩:=m_loadA kz kz
theorem ld3 {h:Hp} {n:Nat} {id off:Nat}:mLoad Go.Proofs.Try.prog 3 (.pointer (some ⟨id,off,none⟩)) h n=(cellAt h id off).bind fun v=>some ⟨v,h,n,[id],[]⟩:=m_load1 kz
theorem ld30 {h:Hp} {n:Nat} {id off:Nat}:mLoad Go.Proofs.Try.prog 30 (.pointer (some ⟨id,off,none⟩)) h n=(cellAt h id off).bind fun v=>some ⟨v,h,n,[id],[]⟩:=m_load1 kz
theorem ld32 {h:Hp} {n:Nat} {id off:Nat}:mLoad Go.Proofs.Try.prog 32 (.pointer (some ⟨id,off,none⟩)) h n=(cellsAt h id off 5).bind fun cs=>some ⟨.agg ⟨cs⟩,h,n,[id],[]⟩:=m_loadA kz kz
theorem ld4 {h:Hp} {n:Nat} {id off:Nat}:mLoad Go.Proofs.Try.prog 4 (.pointer (some ⟨id,off,none⟩)) h n=(cellAt h id off).bind fun v=>some ⟨v,h,n,[id],[]⟩:=m_load1 kz
theorem ld5 {h:Hp} {n:Nat} {id off:Nat}:mLoad Go.Proofs.Try.prog 5 (.pointer (some ⟨id,off,none⟩)) h n=(cellAt h id off).bind fun v=>some ⟨v,h,n,[id],[]⟩:=m_load1 kz
theorem ld62 {h:Hp} {n:Nat} {id off:Nat}:mLoad Go.Proofs.Try.prog 62 (.pointer (some ⟨id,off,none⟩)) h n=(cellAt h id off).bind fun v=>some ⟨v,h,n,[id],[]⟩:=m_load1 kz
theorem ld64 {h:Hp} {n:Nat} {id off:Nat}:mLoad Go.Proofs.Try.prog 64 (.pointer (some ⟨id,off,none⟩)) h n=(cellsAt h id off 4).bind fun cs=>some ⟨.agg ⟨cs⟩,h,n,[id],[]⟩:=m_loadA kz kz
theorem ld71 {h:Hp} {n:Nat} {id off:Nat}:mLoad Go.Proofs.Try.prog 71 (.pointer (some ⟨id,off,none⟩)) h n=(cellsAt h id off 2).bind fun cs=>some ⟨.agg ⟨cs⟩,h,n,[id],[]⟩:=m_loadA kz kz
theorem ld78 {h:Hp} {n:Nat} {id off:Nat}:mLoad Go.Proofs.Try.prog 78 (.pointer (some ⟨id,off,none⟩)) h n=(cellsAt h id off 2).bind fun cs=>some ⟨.agg ⟨cs⟩,h,n,[id],[]⟩:=m_loadA kz kz
theorem ld9 {h:Hp} {n:Nat} {id off:Nat}:mLoad Go.Proofs.Try.prog 9 (.pointer (some ⟨id,off,none⟩)) h n=(cellAt h id off).bind fun v=>some ⟨v,h,n,[id],[]⟩:=m_load1 kz
theorem ld93 {h:Hp} {n:Nat} {id off:Nat}:mLoad Go.Proofs.Try.prog 93 (.pointer (some ⟨id,off,none⟩)) h n=(cellsAt h id off 2).bind fun cs=>some ⟨.agg ⟨cs⟩,h,n,[id],[]⟩:=m_loadA kz kz
theorem mk136 {h:Hp} {n:Nat} {k1 k2:IntKind} {i:Int} (h0:0≤i) (h1:i≤100000):mMakeSlice Go.Proofs.Try.prog 136 (.int k1 i) (.int k2 i) h n=some ⟨.slice (some ⟨n,0,none⟩) i.toNat i.toNat,h.set n (.row 4 false (List.replicate i.toNat [Value.bool false]).flatten),n+1,[],[]⟩:=m_mk (e:=4) (z:=[Value.bool false]) kz kz kz rfl rfl kz h0 h1
theorem mk23 {h:Hp} {n:Nat} {k1 k2:IntKind} {i:Int} (h0:0≤i) (h1:i≤100000):mMakeSlice Go.Proofs.Try.prog 23 (.int k1 i) (.int k2 i) h n=some ⟨.slice (some ⟨n,0,none⟩) i.toNat i.toNat,h.set n (.row 29 false (List.replicate i.toNat [Value.int IntKind.u64 0,Value.slice none 0 0]).flatten),n+1,[],[]⟩:=m_mk (e:=29) (z:=[Value.int IntKind.u64 0,Value.slice none 0 0]) kz kz kz rfl rfl kz h0 h1
theorem mk27 {h:Hp} {n:Nat} {k1 k2:IntKind} {i:Int} (h0:0≤i) (h1:i≤100000):mMakeSlice Go.Proofs.Try.prog 27 (.int k1 i) (.int k2 i) h n=some ⟨.slice (some ⟨n,0,none⟩) i.toNat i.toNat,h.set n (.row 5 false (List.replicate i.toNat [Value.int IntKind.u8 0]).flatten),n+1,[],[]⟩:=m_mk (e:=5) (z:=[Value.int IntKind.u8 0]) kz kz kz rfl rfl kz h0 h1
theorem mk30 {h:Hp} {n:Nat} {k1 k2:IntKind} {i:Int} (h0:0≤i) (h1:i≤100000):mMakeSlice Go.Proofs.Try.prog 30 (.int k1 i) (.int k2 i) h n=some ⟨.slice (some ⟨n,0,none⟩) i.toNat i.toNat,h.set n (.row 32 false (List.replicate i.toNat [Value.int IntKind.u8 0,Value.int IntKind.i64 0,Value.string { data:={ toList:=[] } },Value.slice none 0 0,Value.bool false]).flatten),n+1,[],[]⟩:=m_mk (e:=32) (z:=[Value.int IntKind.u8 0,Value.int IntKind.i64 0,Value.string { data:={ toList:=[] } },Value.slice none 0 0,Value.bool false]) kz kz kz rfl rfl kz h0 h1
theorem mk89 {h:Hp} {n:Nat} {k1 k2:IntKind} {i:Int} (h0:0≤i) (h1:i≤100000):mMakeSlice Go.Proofs.Try.prog 89 (.int k1 i) (.int k2 i) h n=some ⟨.slice (some ⟨n,0,none⟩) i.toNat i.toNat,h.set n (.row 93 false (List.replicate i.toNat [Value.int IntKind.i64 0,Value.int IntKind.i64 0]).flatten),n+1,[],[]⟩:=m_mk (e:=93) (z:=[Value.int IntKind.i64 0,Value.int IntKind.i64 0]) kz kz kz rfl rfl kz h0 h1
theorem mk99 {h:Hp} {n:Nat} {k1 k2:IntKind} {i:Int} (h0:0≤i) (h1:i≤100000):mMakeSlice Go.Proofs.Try.prog 99 (.int k1 i) (.int k2 i) h n=some ⟨.slice (some ⟨n,0,none⟩) i.toNat i.toNat,h.set n (.row 3 false (List.replicate i.toNat [Value.int IntKind.i64 0]).flatten),n+1,[],[]⟩:=m_mk (e:=3) (z:=[Value.int IntKind.i64 0]) kz kz kz rfl rfl kz h0 h1
theorem rc29 {h:Hp} {id off:Nat}:aresC Go.Proofs.Try.prog h 29 (.pointer (some ⟨id,off,none⟩))=(cellsAt h id off 2).map fun cs=>.agg ⟨cs⟩:=rc_agg kz kz
theorem rc32 {h:Hp} {id off:Nat}:aresC Go.Proofs.Try.prog h 32 (.pointer (some ⟨id,off,none⟩))=(cellsAt h id off 5).map fun cs=>.agg ⟨cs⟩:=rc_agg kz kz
theorem rc93 {h:Hp} {id off:Nat}:aresC Go.Proofs.Try.prog h 93 (.pointer (some ⟨id,off,none⟩))=(cellsAt h id off 2).map fun cs=>.agg ⟨cs⟩:=rc_agg kz kz
theorem sa23 {h:Hp} {n:Nat} {id off len c:Nat} {k1 k2:IntKind} {lo hi:Int} (h0:0≤lo) (h1:lo≤hi) (h2:hi≤len):mSlice Go.Proofs.Try.prog 23 (.slice (some ⟨id,off,none⟩) len c) (some (.int k1 lo)) (some (.int k2 hi)) h n=some ⟨.slice (some ⟨id,off+lo.toNat*2,none⟩) (hi.toNat - lo.toNat) (hi.toNat - lo.toNat),h,n,[],[]⟩:=m_slLH (e:=29) kz kz rfl h0 h1 h2
theorem sb23 {h:Hp} {n:Nat} {id off len c:Nat} {k1:IntKind} {lo:Int} (h0:0≤lo) (h1:lo≤len):mSlice Go.Proofs.Try.prog 23 (.slice (some ⟨id,off,none⟩) len c) (some (.int k1 lo)) none h n=some ⟨.slice (some ⟨id,off+lo.toNat*2,none⟩) (len - lo.toNat) (len - lo.toNat),h,n,[],[]⟩:=m_slL (e:=29) kz kz rfl h0 h1
theorem sc23 {h:Hp} {n:Nat} {id off len c:Nat} {k2:IntKind} {hi:Int} (h1:0≤hi) (h2:hi≤len):mSlice Go.Proofs.Try.prog 23 (.slice (some ⟨id,off,none⟩) len c) none (some (.int k2 hi)) h n=some ⟨.slice (some ⟨id,off,none⟩) hi.toNat hi.toNat,h,n,[],[]⟩:=m_slH (e:=29) (s:=2) kz kz rfl h1 h2
theorem sa27 {h:Hp} {n:Nat} {id off len c:Nat} {k1 k2:IntKind} {lo hi:Int} (h0:0≤lo) (h1:lo≤hi) (h2:hi≤len):mSlice Go.Proofs.Try.prog 27 (.slice (some ⟨id,off,none⟩) len c) (some (.int k1 lo)) (some (.int k2 hi)) h n=some ⟨.slice (some ⟨id,off+lo.toNat*1,none⟩) (hi.toNat - lo.toNat) (hi.toNat - lo.toNat),h,n,[],[]⟩:=m_slLH (e:=5) kz kz rfl h0 h1 h2
theorem sb27 {h:Hp} {n:Nat} {id off len c:Nat} {k1:IntKind} {lo:Int} (h0:0≤lo) (h1:lo≤len):mSlice Go.Proofs.Try.prog 27 (.slice (some ⟨id,off,none⟩) len c) (some (.int k1 lo)) none h n=some ⟨.slice (some ⟨id,off+lo.toNat*1,none⟩) (len - lo.toNat) (len - lo.toNat),h,n,[],[]⟩:=m_slL (e:=5) kz kz rfl h0 h1
theorem sc27 {h:Hp} {n:Nat} {id off len c:Nat} {k2:IntKind} {hi:Int} (h1:0≤hi) (h2:hi≤len):mSlice Go.Proofs.Try.prog 27 (.slice (some ⟨id,off,none⟩) len c) none (some (.int k2 hi)) h n=some ⟨.slice (some ⟨id,off,none⟩) hi.toNat hi.toNat,h,n,[],[]⟩:=m_slH (e:=5) (s:=1) kz kz rfl h1 h2
theorem sa99 {h:Hp} {n:Nat} {id off len c:Nat} {k1 k2:IntKind} {lo hi:Int} (h0:0≤lo) (h1:lo≤hi) (h2:hi≤len):mSlice Go.Proofs.Try.prog 99 (.slice (some ⟨id,off,none⟩) len c) (some (.int k1 lo)) (some (.int k2 hi)) h n=some ⟨.slice (some ⟨id,off+lo.toNat*1,none⟩) (hi.toNat - lo.toNat) (hi.toNat - lo.toNat),h,n,[],[]⟩:=m_slLH (e:=3) kz kz rfl h0 h1 h2
theorem sb99 {h:Hp} {n:Nat} {id off len c:Nat} {k1:IntKind} {lo:Int} (h0:0≤lo) (h1:lo≤len):mSlice Go.Proofs.Try.prog 99 (.slice (some ⟨id,off,none⟩) len c) (some (.int k1 lo)) none h n=some ⟨.slice (some ⟨id,off+lo.toNat*1,none⟩) (len - lo.toNat) (len - lo.toNat),h,n,[],[]⟩:=m_slL (e:=3) kz kz rfl h0 h1
theorem sc99 {h:Hp} {n:Nat} {id off len c:Nat} {k2:IntKind} {hi:Int} (h1:0≤hi) (h2:hi≤len):mSlice Go.Proofs.Try.prog 99 (.slice (some ⟨id,off,none⟩) len c) none (some (.int k2 hi)) h n=some ⟨.slice (some ⟨id,off,none⟩) hi.toNat hi.toNat,h,n,[],[]⟩:=m_slH (e:=3) (s:=1) kz kz rfl h1 h2
theorem st130 {h:Hp} {n:Nat} {lim id off:Nat} {a0:Option Addr} (hl:lim≤id):mStore Go.Proofs.Try.prog lim 130 (.pointer (some ⟨id,off,none⟩)) (.pointer a0) h n=(rwOf h id).bind fun r=>(overAt off [.pointer a0] r.2).bind fun cs'=>some ⟨undef,h.set id (.row r.1 false cs'),n,[],[id]⟩:=m_st1 kz hl (c_ptr1 _) rfl
theorem st2 {h:Hp} {n:Nat} {lim id off:Nat} {k0:IntKind} {z0:Int} (hl:lim≤id):mStore Go.Proofs.Try.prog lim 2 (.pointer (some ⟨id,off,none⟩)) (.int k0 z0) h n=(rwOf h id).bind fun r=>(overAt off [.int k0 z0] r.2).bind fun cs'=>some ⟨undef,h.set id (.row r.1 false cs'),n,[],[id]⟩:=m_st1 kz hl (c_int1 _ _) rfl
theorem st27 {h:Hp} {n:Nat} {lim id off:Nat} {A0:Option Addr} {m0 c0:Nat} (hl:lim≤id):mStore Go.Proofs.Try.prog lim 27 (.pointer (some ⟨id,off,none⟩)) (.slice A0 m0 c0) h n=(rwOf h id).bind fun r=>(overAt off [.slice A0 m0 c0] r.2).bind fun cs'=>some ⟨undef,h.set id (.row r.1 false cs'),n,[],[id]⟩:=m_st1 kz hl (c_sli1 _ _ _) rfl
theorem st29 {h:Hp} {n:Nat} {lim id off:Nat} {ys:List Value} (hl:lim≤id):mStore Go.Proofs.Try.prog lim 29 (.pointer (some ⟨id,off,none⟩)) (.agg ⟨ys⟩) h n=bif (ys.length == 2) && ys.all cok then (rwOf h id).bind fun r=>(overAt off ys r.2).bind fun cs'=>some ⟨undef,h.set id (.row r.1 false cs'),n,[],[id]⟩ else none:=m_stA kz hl
theorem st3 {h:Hp} {n:Nat} {lim id off:Nat} {k0:IntKind} {z0:Int} (hl:lim≤id):mStore Go.Proofs.Try.prog lim 3 (.pointer (some ⟨id,off,none⟩)) (.int k0 z0) h n=(rwOf h id).bind fun r=>(overAt off [.int k0 z0] r.2).bind fun cs'=>some ⟨undef,h.set id (.row r.1 false cs'),n,[],[id]⟩:=m_st1 kz hl (c_int1 _ _) rfl
theorem st30 {h:Hp} {n:Nat} {lim id off:Nat} {A0:Option Addr} {m0 c0:Nat} (hl:lim≤id):mStore Go.Proofs.Try.prog lim 30 (.pointer (some ⟨id,off,none⟩)) (.slice A0 m0 c0) h n=(rwOf h id).bind fun r=>(overAt off [.slice A0 m0 c0] r.2).bind fun cs'=>some ⟨undef,h.set id (.row r.1 false cs'),n,[],[id]⟩:=m_st1 kz hl (c_sli1 _ _ _) rfl
theorem st32 {h:Hp} {n:Nat} {lim id off:Nat} {ys:List Value} (hl:lim≤id):mStore Go.Proofs.Try.prog lim 32 (.pointer (some ⟨id,off,none⟩)) (.agg ⟨ys⟩) h n=bif (ys.length == 5) && ys.all cok then (rwOf h id).bind fun r=>(overAt off ys r.2).bind fun cs'=>some ⟨undef,h.set id (.row r.1 false cs'),n,[],[id]⟩ else none:=m_stA kz hl
theorem st4 {h:Hp} {n:Nat} {lim id off:Nat} {b0:Bool} (hl:lim≤id):mStore Go.Proofs.Try.prog lim 4 (.pointer (some ⟨id,off,none⟩)) (.bool b0) h n=(rwOf h id).bind fun r=>(overAt off [.bool b0] r.2).bind fun cs'=>some ⟨undef,h.set id (.row r.1 false cs'),n,[],[id]⟩:=m_st1 kz hl (c_bool1 _) rfl
theorem st5 {h:Hp} {n:Nat} {lim id off:Nat} {k0:IntKind} {z0:Int} (hl:lim≤id):mStore Go.Proofs.Try.prog lim 5 (.pointer (some ⟨id,off,none⟩)) (.int k0 z0) h n=(rwOf h id).bind fun r=>(overAt off [.int k0 z0] r.2).bind fun cs'=>some ⟨undef,h.set id (.row r.1 false cs'),n,[],[id]⟩:=m_st1 kz hl (c_int1 _ _) rfl
theorem st64 {h:Hp} {n:Nat} {lim id off:Nat} {ys:List Value} (hl:lim≤id):mStore Go.Proofs.Try.prog lim 64 (.pointer (some ⟨id,off,none⟩)) (.agg ⟨ys⟩) h n=bif (ys.length == 4) && ys.all cok then (rwOf h id).bind fun r=>(overAt off ys r.2).bind fun cs'=>some ⟨undef,h.set id (.row r.1 false cs'),n,[],[id]⟩ else none:=m_stA kz hl
theorem st71 {h:Hp} {n:Nat} {lim id off:Nat} {ys:List Value} (hl:lim≤id):mStore Go.Proofs.Try.prog lim 71 (.pointer (some ⟨id,off,none⟩)) (.agg ⟨ys⟩) h n=bif (ys.length == 2) && ys.all cok then (rwOf h id).bind fun r=>(overAt off ys r.2).bind fun cs'=>some ⟨undef,h.set id (.row r.1 false cs'),n,[],[id]⟩ else none:=m_stA kz hl
theorem st9 {h:Hp} {n:Nat} {lim id off:Nat} {s0:ByteArray} (hl:lim≤id):mStore Go.Proofs.Try.prog lim 9 (.pointer (some ⟨id,off,none⟩)) (.string s0) h n=(rwOf h id).bind fun r=>(overAt off [.string s0] r.2).bind fun cs'=>some ⟨undef,h.set id (.row r.1 false cs'),n,[],[id]⟩:=m_st1 kz hl (c_str1 _) rfl
theorem st93 {h:Hp} {n:Nat} {lim id off:Nat} {ys:List Value} (hl:lim≤id):mStore Go.Proofs.Try.prog lim 93 (.pointer (some ⟨id,off,none⟩)) (.agg ⟨ys⟩) h n=bif (ys.length == 2) && ys.all cok then (rwOf h id).bind fun r=>(overAt off ys r.2).bind fun cs'=>some ⟨undef,h.set id (.row r.1 false cs'),n,[],[id]⟩ else none:=m_stA kz hl
theorem tys:(type_of% @al130)∧(type_of% @al29)∧(type_of% @al32)∧(type_of% @al64)∧(type_of% @al71)∧(type_of% @al93)∧(type_of% @bx22)∧(type_of% @bx29)∧(type_of% @bx3)∧(type_of% @bx32)∧(type_of% @bx64)∧(type_of% @bx78)∧(type_of% @bu29)∧(type_of% @bu32)∧(type_of% @bu64)∧(type_of% @bu71)∧(type_of% @bu78)∧(type_of% @bu93)∧(type_of% @bs22_1)∧(type_of% @bs23_1)∧(type_of% @bs23_2)∧(type_of% @bs27_0)∧(type_of% @bs27_1)∧(type_of% @bs30_1)∧(type_of% @bs30_2)∧(type_of% @bs62_2)∧(type_of% @bs97_1)∧(type_of% @bs97_2)∧(type_of% @bs97_3)∧(type_of% @bs99_1)∧(type_of% @bs99_2)∧(type_of% @bs99_3)∧(type_of% @cv2_24)∧(type_of% @cv2_5)∧(type_of% @cv24_2)∧(type_of% @cv24_3)∧(type_of% @cv24_5)∧(type_of% @cv3_24)∧(type_of% @cv5_2)∧(type_of% @cv5_24)∧(type_of% @cv9_27)∧(type_of% @fa29_0)∧(type_of% @fa29_1)∧(type_of% @fa32_0)∧(type_of% @fa32_1)∧(type_of% @fa32_2)∧(type_of% @fa32_3)∧(type_of% @fa32_4)∧(type_of% @fa64_0)∧(type_of% @fa64_1)∧(type_of% @fa64_2)∧(type_of% @fa64_3)∧(type_of% @fa71_0)∧(type_of% @fa71_1)∧(type_of% @fa78_0)∧(type_of% @fa78_1)∧(type_of% @fa93_0)∧(type_of% @fa93_1)∧(type_of% @ix136)∧(type_of% @ix22)∧(type_of% @ix23)∧(type_of% @ix27)∧(type_of% @ix30)∧(type_of% @ix62)∧(type_of% @ix89)∧(type_of% @ix97)∧(type_of% @ix99)∧(type_of% @ln136)∧(type_of% @ln22)∧(type_of% @ln23)∧(type_of% @ln27)∧(type_of% @ln30)∧(type_of% @ln62)∧(type_of% @ln9)∧(type_of% @ln97)∧(type_of% @ln99)∧(type_of% @ld130)∧(type_of% @ld2)∧(type_of% @ld22)∧(type_of% @ld23)∧(type_of% @ld24)∧(type_of% @ld27)∧(type_of% @ld29)∧(type_of% @ld3)∧(type_of% @ld30)∧(type_of% @ld32)∧(type_of% @ld4)∧(type_of% @ld5)∧(type_of% @ld62)∧(type_of% @ld64)∧(type_of% @ld71)∧(type_of% @ld78)∧(type_of% @ld9)∧(type_of% @ld93)∧(type_of% @mk136)∧(type_of% @mk23)∧(type_of% @mk27)∧(type_of% @mk30)∧(type_of% @mk89)∧(type_of% @mk99)∧(type_of% @rc29)∧(type_of% @rc32)∧(type_of% @rc93)∧(type_of% @sa23)∧(type_of% @sb23)∧(type_of% @sc23)∧(type_of% @sa27)∧(type_of% @sb27)∧(type_of% @sc27)∧(type_of% @sa99)∧(type_of% @sb99)∧(type_of% @sc99)∧(type_of% @st130)∧(type_of% @st2)∧(type_of% @st27)∧(type_of% @st29)∧(type_of% @st3)∧(type_of% @st30)∧(type_of% @st32)∧(type_of% @st4)∧(type_of% @st5)∧(type_of% @st64)∧(type_of% @st71)∧(type_of% @st9)∧(type_of% @st93):=
 ⟨@al130,@al29,@al32,@al64,@al71,@al93,@bx22,@bx29,@bx3,@bx32,@bx64,@bx78,@bu29,@bu32,@bu64,@bu71,@bu78,@bu93,@bs22_1,@bs23_1,@bs23_2,@bs27_0,@bs27_1,@bs30_1,@bs30_2,@bs62_2,@bs97_1,@bs97_2,@bs97_3,@bs99_1,@bs99_2,@bs99_3,@cv2_24,@cv2_5,@cv24_2,@cv24_3,@cv24_5,@cv3_24,@cv5_2,@cv5_24,@cv9_27,@fa29_0,@fa29_1,@fa32_0,@fa32_1,@fa32_2,@fa32_3,@fa32_4,@fa64_0,@fa64_1,@fa64_2,@fa64_3,@fa71_0,@fa71_1,@fa78_0,@fa78_1,@fa93_0,@fa93_1,@ix136,@ix22,@ix23,@ix27,@ix30,@ix62,@ix89,@ix97,@ix99,@ln136,@ln22,@ln23,@ln27,@ln30,@ln62,@ln9,@ln97,@ln99,@ld130,@ld2,@ld22,@ld23,@ld24,@ld27,@ld29,@ld3,@ld30,@ld32,@ld4,@ld5,@ld62,@ld64,@ld71,@ld78,@ld9,@ld93,@mk136,@mk23,@mk27,@mk30,@mk89,@mk99,@rc29,@rc32,@rc93,@sa23,@sb23,@sc23,@sa27,@sb27,@sc27,@sa99,@sb99,@sc99,@st130,@st2,@st27,@st29,@st3,@st30,@st32,@st4,@st5,@st64,@st71,@st9,@st93⟩
end Go.Proofs.Ytcpkdjikembpnaa.Ce
namespace Go.Proofs.Ytcpkdjikembpnaa
section
def basedB (a:Int):Bool:=decide (8≤a∧a≤1099511627776∧a % 8=0)
def chkR (b:Int) (n:Nat):Int:=if basedB b=true∧n≤20000 then 0 else 8
theorem chkR_cases (b:Int) (n:Nat):chkR b n=0∨chkR b n=8:=by unfold chkR;split <;> simp
theorem chkR_ok {b:Int} {n:Nat} (h:chkR b n=0):8≤b∧b≤1099511627776∧b % 8=0∧n≤20000:=by
 unfold chkR basedB at h;grind
def inb (b:Int) (n:Nat) (a k:Int):Bool:=decide (b≤a∧a+k≤b+n)
def indexS (b:Int) (n:Nat) (a k:Int):Int × Bool:=if b≤a∧a - b≤n then (a - b,decide (k≤n - (a - b))) else (0,false)
theorem indexS_snd {b:Int} {n:Nat} {a k:Int} (h:0≤k):(indexS b n a k).2=inb b n a k:=by
 unfold indexS inb;grind
theorem inb_iff {b:Int} {n:Nat} {a k:Int}:inb b n a k=true↔b≤a∧a+k≤b+n:=by unfold inb;simp
def hasS (b:Int) (n:Nat) (a k:Int):Bool × Int:=if chkR b n=0 then (if k<0 then (false,2) else (inb b n a k,0)) else (false,8)
def le (l:List UInt8):Int:=l.foldr (fun x acc=>x.toNat+256*acc) 0
def wordV (xs:List UInt8) (at_ w:Nat):Int:=le ((xs.drop at_).take w)
def byteAt (v:Int) (j:Nat):UInt8:=UInt8.ofNat (v / 256 ^ j % 256).toNat
def toLE (w:Nat) (v:Int):List UInt8:=(List.range w).map (byteAt v)
def put (xs:List UInt8) (at_:Nat) (ys:List UInt8):List UInt8:=xs.take at_ ++ (ys ++ xs.drop (at_+ys.length))
def resized (xs:List UInt8) (k:Nat):List UInt8:=xs.take k ++ List.replicate (k - xs.length) 0
theorem le_cons (x:UInt8) (l:List UInt8):le (x :: l)=x.toNat+256*le l:=rfl
theorem le_nonneg:∀ l:List UInt8,0≤le l
 | []=>by simp [le]
 | x :: l=>by rw [le_cons];have:=le_nonneg l;omega
theorem le_lt:∀ l:List UInt8,le l<256 ^ l.length
 | []=>by simp [le]
 | x :: l=>by
  rw [le_cons,List.length_cons,Int.pow_succ]
  have:=le_lt l
  have h:=UInt8.toNat_lt x
  omega
theorem le_lt7 {l:List UInt8} (h:l.length≤7):le l<72057594037927936:=by
 have h1:=le_lt l
 have h2:(256:Int) ^ l.length≤256 ^ 7:=by
  rw [show l.length=7 - (7 - l.length) from by omega]
  generalize 7 - l.length=k at *
  match k with
  | 0=>simp
  | 1=>decide
  | 2=>decide
  | 3=>decide
  | 4=>decide
  | 5=>decide
  | 6=>decide
  | k+7=>simp
 have h3:(256:Int) ^ 7=72057594037927936:=by decide
 omega
theorem wordV_step {xs:List UInt8} {at_ m k:Nat} (h:at_+k≤xs.length) (hm:m<k) :
  le ((xs.drop (at_+m)).take (k - m))=(xs[at_+m]'zm).toNat+256*le ((xs.drop (at_+(m+1))).take (k - (m+1))):=by
 rw [List.drop_eq_getElem_cons zm,show k - m=(k - (m+1))+1 from by omega,List.take_succ_cons,le_cons]
 rfl
theorem toLE_length (w:Nat) (v:Int):(toLE w v).length=w:=by simp [toLE]
theorem toLE_zero (v:Int):toLE 0 v=[]:=rfl
theorem toLE_succ (w:Nat) (v:Int):toLE (w+1) v=toLE w v ++ [byteAt v w]:=by simp [toLE,List.range_succ]
theorem byteAt_nat (v:Int) (j:Nat):((byteAt v j).toNat:Int)=v / 256 ^ j % 256:=by
 unfold byteAt
 have h0:0≤v / 256 ^ j % 256:=Int.emod_nonneg _ (by decide)
 have h1:v / 256 ^ j % 256<256:=Int.emod_lt_of_pos _ (by decide)
 generalize v / 256 ^ j % 256=z at *
 obtain ⟨n,rfl⟩:=Int.eq_ofNat_of_zero_le h0
 have:n<256:=by omega
 simp [Nat.mod_eq_of_lt this]
theorem put_length {xs ys:List UInt8} {k:Nat} (h:k+ys.length≤xs.length):(put xs k ys).length=xs.length:=by
 unfold put;simp;omega
theorem byteAt_shr (v:Int) (j:Nat):v / 2 ^ (8*j) % 256=((byteAt v j).toNat:Int):=by
 rw [byteAt_nat,Int.pow_mul];rfl
end
section
def sizeI (n:Int):Int:=max 8 ((n+7) / 8*8)
theorem sizeI_ge (n:Int):8≤sizeI n∧n≤sizeI n∧sizeI n % 8=0:=by unfold sizeI;omega
theorem sizeI_le {n:Int} (h:n≤4096):sizeI n≤4096:=by unfold sizeI;omega
def chkB (b:Int) (n:Nat) (lim:Int):Int:=if b=65536∧n % 8=0∧n≤16384 then (if 0≤lim∧lim≤16384 then 0 else 2) else 8
theorem chkB_ok {b:Int} {n:Nat} {lim:Int} (h:chkB b n lim=0):b=65536∧n % 8=0∧n≤16384∧0≤lim∧lim≤16384:=by unfold chkB at h;grind
theorem chkB_R {n:Nat} (h:n≤16384):chkR 65536 n=0:=by unfold chkR basedB;grind
def roomS (b:Int) (n:Nat) (lim:Int):Int × Int:=if chkB b n lim=0 then (max 0 ((lim - n) / 8*8),0) else (0,chkB b n lim)
def allocE (b:Int) (len:Nat) (n lim:Int):Int:=if chkB b len lim=0 then (if n<0∨4096<n then 2 else if lim<len+sizeI n then 18 else 0) else chkB b len lim
def grown (xs:List UInt8) (n:Int):List UInt8:=xs ++ List.replicate (sizeI n).toNat 0
theorem room_lt {len:Nat} {n lim:Int} (h8:len % 8=0):max 0 ((lim - len) / 8*8)<sizeI n↔lim<len+sizeI n:=by
 unfold sizeI;omega
def greatB (n:Nat):Bool:=decide ((2000<n∧n<16300)∨16500<n)
def isB (b:Int) (n:Nat):Bool:=decide (b=65536∧n % 8=0∧n≤16384)
end
end Go.Proofs.Ytcpkdjikembpnaa
namespace Go.Proofs.Ytcpkdjikembpnaa.Ce
section
open Go.RowKit
variable (k d cl:Nat) (h:Hp) (n:Nat)
theorem based_ev (a:Int) (h0:0≤a) (h1:a<18446744073709551616) :
  SQ k (d+1) cl 100 [.int .u64 a] h n fun v h' n'=>v = .bool (basedB a)∧h'=h∧n'=n:=by
 refine enter Try.func100 kz rfl kz rfl rfl rfl ?_
 (repeat' first|refine zcd ?_|intro K' hK|(with_reducible refine zn hK ?_;clear hK)|fail|((with_reducible first|apply zo1|apply zo2|apply o_guard rfl|apply x_cond|apply k_e1 rfl|apply k_e2 rfl|apply k_e0 rfl|apply k_e3 rfl|apply k_e4 rfl);(case he=>exact ez0);(try case hok=>exact ezO);all_goals try (intro hb;(try simp only [hbs,reduceCtorEq] at hb);try exact ezX))|((with_reducible apply o_undef rfl);(case hb=>exact ez0)))
 all_goals exact sw_flat rfl rfl ⟨by unfold basedB;congr 1;grind,rfl,rfl⟩
theorem check_ev (b:Int) (A:Option Addr) (m c:Nat) (h0:0≤b) (h1:b<18446744073709551616) (hm:m≤9223372036854775807) :
  SQ k (d+2) cl 62 [.agg ⟨[.int .u64 b,.slice A m c]⟩] h n fun v h' n'=>v = .int .i64 (chkR b m)∧h'=h∧n'=n:=by
 refine enter Try.func62 kz rfl kz rfl rfl rfl ?_
 (repeat' first|refine zcd ?_|intro K' hK|(with_reducible refine zn hK ?_;clear hK)|((with_reducible apply o_callF (g:=100) w_none);(case ha=>exact ez0);(case hs=>exact based_ev _ _ _ _ _ _ h0 h1);(case' hk=>rintro _ h' n' ⟨rfl,rfl,rfl⟩))|((with_reducible first|apply zo1|apply zo2|apply o_guard rfl|apply x_cond|apply k_e1 rfl|apply k_e2 rfl|apply k_e0 rfl|apply k_e3 rfl|apply k_e4 rfl);(case he=>exact ez0);(try case hok=>exact ezO);all_goals try (intro hb;(try simp only [hbs,reduceCtorEq] at hb);try exact ezX))|((with_reducible apply o_undef rfl);(case hb=>exact ez0)))
 all_goals exact sw_flat rfl rfl ⟨by unfold chkR;congr 1;grind,rfl,rfl⟩
theorem index_ev (b:Int) (A:Option Addr) (m c:Nat) (a w:Int) (hv:chkR b m=0) (ha0:0≤a) (ha1:a<18446744073709551616) (hw0 : -9223372036854775808≤w) (hw1:w≤9223372036854775807) :
  SQ k (d+1) cl 64 [.agg ⟨[.int .u64 b,.slice A m c]⟩,.int .u64 a,.int .i64 w] h n fun v h' n'=>v = .tuple ⟨[.int .i64 (indexS b m a w).1,.bool (indexS b m a w).2]⟩∧h'=h∧n'=n:=by
 obtain ⟨h2,h3,h4,h5⟩:=chkR_ok hv
 refine enter Try.func64 kz rfl kz rfl rfl rfl ?_
 (repeat' first|refine zcd ?_|intro K' hK|(with_reducible refine zn hK ?_;clear hK)|(with_reducible refine x_drawn (id:=4) kz fun K' hK=>?_)|((with_reducible first|apply zo1|apply zo2|apply o_guard rfl|apply x_cond|apply k_e1 rfl|apply k_e2 rfl|apply k_e0 rfl|apply k_e3 rfl|apply k_e4 rfl);(case he=>exact ez0);(try case hok=>exact ezO);all_goals try (intro hb;(try simp only [hbs,reduceCtorEq] at hb);try exact ezX))|((with_reducible apply o_undef rfl);(case hb=>exact ez0)))
 all_goals exact sw_flat rfl rfl ⟨by unfold indexS;grind,rfl,rfl⟩
theorem has_ev (b:Int) (A:Option Addr) (m c:Nat) (a w:Int) (h0:0≤b) (h1:b<18446744073709551616) (hm:m≤9223372036854775807) (ha0:0≤a) (ha1:a<18446744073709551616) (hw0 : -9223372036854775808≤w) (hw1:w≤9223372036854775807) :
  SQ k (d+3) cl 65 [.agg ⟨[.int .u64 b,.slice A m c]⟩,.int .u64 a,.int .i64 w] h n fun v h' n'=>v = .tuple ⟨[.bool (hasS b m a w).1,.int .i64 (hasS b m a w).2]⟩∧h'=h∧n'=n:=by
 refine enter Try.func65 kz rfl kz rfl rfl rfl ?_
 rcases chkR_cases b m with hc|hc
 ·(repeat' first|refine zcd ?_|intro K' hK|(with_reducible refine zn hK ?_;clear hK)|((with_reducible apply o_callF (g:=62) w_none);(case ha=>exact ez0);(case hs=>exact check_ev _ _ _ _ _ _ _ _ _ h0 h1 hm);(case' hk=>rintro _ h' n' ⟨rfl,rfl,rfl⟩))|((with_reducible apply o_callF (g:=64) w_none);(case ha=>exact ez0);(case hs=>exact index_ev _ _ _ _ _ _ _ _ _ _ _ hc ha0 ha1 hw0 hw1);(case' hk=>rintro _ h' n' ⟨rfl,rfl,rfl⟩))|((with_reducible first|apply zo1|apply zo2|apply o_guard rfl|apply x_cond|apply k_e1 rfl|apply k_e2 rfl|apply k_e0 rfl|apply k_e3 rfl|apply k_e4 rfl);(case he=>exact ez0);(try case hok=>exact ezO);all_goals try (intro hb;(try simp only [hbs,reduceCtorEq] at hb);try exact ezX))|((with_reducible apply o_undef rfl);(case hb=>exact ez0)))
  all_goals first|exact sw_flat rfl rfl ⟨by unfold hasS;rw [if_pos hc,if_neg zm,indexS_snd zm],rfl,rfl⟩|exact sw_flat rfl rfl ⟨by unfold hasS;rw [if_pos hc,if_pos zm],rfl,rfl⟩
 ·(repeat' first|refine zcd ?_|intro K' hK|(with_reducible refine zn hK ?_;clear hK)|((with_reducible apply o_callF (g:=62) w_none);(case ha=>exact ez0);(case hs=>exact check_ev _ _ _ _ _ _ _ _ _ h0 h1 hm);(case' hk=>rintro _ h' n' ⟨rfl,rfl,rfl⟩))|((with_reducible first|apply zo1|apply zo2|apply o_guard rfl|apply x_cond|apply k_e1 rfl|apply k_e2 rfl|apply k_e0 rfl|apply k_e3 rfl|apply k_e4 rfl);(case he=>exact ez0);(try case hok=>exact ezO);all_goals try (intro hb;(try simp only [hbs,reduceCtorEq] at hb);try exact ezX))|((with_reducible apply o_undef rfl);(case hb=>exact ez0)))
  exact sw_flat rfl rfl ⟨by unfold hasS;rw [if_neg zm,hc],rfl,rfl⟩
end
section
open Go.RowKit
theorem RdH.bytes {h:Hp} {B:Nat} {A:Option Addr} {xs:List UInt8} (hr:RdH h B A (bv xs)) (hl:0<xs.length):∃ id off,A=some ⟨id,off,none⟩∧id<B∧∀ k (hk:k<xs.length),cellAt h id (off+k)=some (.int .u8 (xs[k]).toNat):=by
 obtain ⟨id,off,e,hb,hc⟩:=hr.at_ (by rw [bv_length];exact hl)
 exact ⟨id,off,e,hb,fun k hk=>hc k _ (bv_get hk)⟩
variable (k d cl:Nat) (h:Hp) (n:Nat)
end
section
open Go.RowKit
theorem bv_cok (xs:List UInt8):(bv xs).all cok=true:=by
 rw [List.all_eq_true]
 intro v hv
 simp only [bv,List.mem_map] at hv
 obtain ⟨x,_,rfl⟩:=hv
 rfl
theorem bv_idA (n:Nat) (xs:List UInt8):∀ v∈bv xs,idA n v=[]:=by
 intro v hv
 simp only [bv,List.mem_map] at hv
 obtain ⟨x,_,rfl⟩:=hv
 rfl
variable (k d cl:Nat) (h:Hp) (n:Nat)
theorem clone_ev (id off:Nat) (xs:List UInt8) (c:Nat) (hr:RdH h n (some ⟨id,off,none⟩) (bv xs)) (hm:xs.length≤1000000) :
  SQ k (d+1) cl 48 [.slice (some ⟨id,off,none⟩) xs.length c] h n fun v h' n'=>v = .slice (some ⟨n,0,none⟩) xs.length xs.length∧h'=h.set n (.row 5 false (bv xs))∧n'=n+1:=by
 refine enter Try.func48 kz rfl kz rfl rfl rfl ?_
 have hs1:∀ x,SrcIs 1 (h.set n x) (.slice (some ⟨id,off,none⟩) xs.length c) xs.length (bv xs):=fun x=>src_rd (hr.set (Nat.le_refl n) x) (fun h=>by cases h) (by rw [bv_length];omega) (by decide)
 (repeat' first|refine zcd ?_|intro K' hK|(with_reducible refine zn hK ?_;clear hK)|((with_reducible apply o_apR (t:=27) apT27 w_none);(case hs=>exact ez0);(case hy=>exact ez0);(case hsrc=>exact hs1 _);(case hr=>exact ez0);(case hc=>exact bv_cok xs);(case hm=>omega);(case hli=>omega);(case hln=>omega);(case hcs=>simp))|((with_reducible first|apply zo1|apply zo2|apply o_guard rfl|apply x_cond|apply k_e1 rfl|apply k_e2 rfl|apply k_e0 rfl|apply k_e3 rfl|apply k_e4 rfl);(case he=>exact ez0);(try case hok=>exact ezO);all_goals try (intro hb;(try simp only [hbs,reduceCtorEq] at hb);try exact ezX))|((with_reducible apply o_undef rfl);(case hb=>exact ez0)))
 (refine sw_row ezI rfl zm (by first|assumption|(simp (disch:=first|assumption|omega|rfl|decide) only [go_sem,Nat.reduceBEq,↓reduceIte,Nat.reduceEqDiff,Nat.reduceAdd,Nat.reduceMul,Int.reduceToNat,Int.reduceAdd,Int.reduceMul,Int.reduceSub,tys] <;> rfl)) (by exact bv_idA _ _) ezR ?_;exact ⟨rfl,rfl,rfl⟩)
end
section
open Go.RowKit
theorem shr_byte {v:Int} {i:Nat} (h0:0≤v) (hi:i≤7):IntKind.wrap .u8 (v.fdiv (2 ^ min (8*(i:Int)).toNat 64))=((byteAt v i).toNat:Int):=by
 have e:min (8*(i:Int)).toNat 64=8*i:=by
  have:(8*(i:Int)).toNat=8*i:=by omega
  rw [this]
  omega
 rw [e,IntKind.wrap_u8,Int.fdiv_eq_ediv_of_nonneg _ (Int.pow_nonneg (by decide)),byteAt_shr]
variable (k d cl:Nat) (h:Hp) (n:Nat)
end
end Go.Proofs.Ytcpkdjikembpnaa.Ce
