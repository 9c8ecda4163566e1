/- Lookups in the tables of the program, as equations: written by a program. -/
import Derived.Test.YtogjplcnmibnlaaGreatDoorCEnv
import Derived.Test.YtogjplcnmibnlaaGreatDoorEwL
import Derived.WalkKit
set_option autoImplicit false
set_option maxRecDepth 100000
set_option linter.unusedVariables false
set_option linter.unusedSectionVars false
namespace Go.Proofs.YtogjplcnmibnlaaGreatDoor.Env
open Go.Ev
theorem TYC:(env.ty 0=some r0∧env.ty 1=some r1∧env.ty 2=some r2∧env.ty 3=some r2∧env.ty 4=some r43∧env.ty 5=some r7∧env.ty 6=some r7∧env.ty 7=some r3∧env.ty 8=some r3∧env.ty 9=some r13∧env.ty 10=some r13∧env.ty 11=some r13) ∧
(env.ty 12=some r8∧env.ty 13=some r33∧env.ty 14=some r33∧env.ty 15=some r4∧env.ty 16=some r44∧env.ty 17=some r25∧env.ty 18=some r14∧env.ty 19=some r14∧env.ty 20=some r47∧env.ty 21=some r16∧env.ty 22=some r53∧env.ty 23=some r10) ∧
(env.ty 24=some r10∧env.ty 25=some r27∧env.ty 26=some r1∧env.ty 27=some r20∧env.ty 28=some r37∧env.ty 29=some r37∧env.ty 30=some r2∧env.ty 31=some r5∧env.ty 32=some r1∧env.ty 33=some r5∧env.ty 34=some r1∧env.ty 35=some r1) ∧
(env.ty 36=some r1∧env.ty 37=some r1∧env.ty 38=some r5∧env.ty 39=some r1∧env.ty 40=some r1∧env.ty 41=some r1∧env.ty 42=some r1∧env.ty 43=some r1∧env.ty 44=some r1∧env.ty 45=some r38∧env.ty 46=some r1∧env.ty 47=some r1) ∧
(env.ty 48=some r1∧env.ty 49=some r1∧env.ty 50=some r50∧env.ty 51=some r17∧env.ty 52=some r17∧env.ty 53=some r1∧env.ty 54=some r54∧env.ty 55=some r1∧env.ty 56=some r1∧env.ty 57=some r29∧env.ty 58=some r23∧env.ty 59=some r23) ∧
(env.ty 60=some r1∧env.ty 61=some r28∧env.ty 62=some r28∧env.ty 63=some r6∧env.ty 64=some r19∧env.ty 65=some r1∧env.ty 66=some r48∧env.ty 67=some r15∧env.ty 68=some r15∧env.ty 69=some r1∧env.ty 70=some r11∧env.ty 71=some r11) ∧
(env.ty 72=some r1∧env.ty 73=some r1∧env.ty 74=some r51∧env.ty 75=some r21∧env.ty 76=some r39∧env.ty 77=some r39∧env.ty 78=some r55∧env.ty 79=some r1∧env.ty 80=some r1∧env.ty 81=some r1∧env.ty 82=some r1∧env.ty 83=some r18) ∧
(env.ty 84=some r1∧env.ty 85=some r1∧env.ty 86=some r1∧env.ty 87=some r1∧env.ty 88=some r1∧env.ty 89=some r30∧env.ty 90=some r24∧env.ty 91=some r24∧env.ty 92=some r1∧env.ty 93=some r1∧env.ty 94=some r1∧env.ty 95=some r1) ∧
(env.ty 96=some r1∧env.ty 97=some r5∧env.ty 98=some r1∧env.ty 99=some r1∧env.ty 100=some r1∧env.ty 101=some r1∧env.ty 102=some r1∧env.ty 103=some r12∧env.ty 104=some r1∧env.ty 105=some r1∧env.ty 106=some r22∧env.ty 107=some r22) ∧
(env.ty 108=some r1∧env.ty 109=some r41∧env.ty 110=some r41∧env.ty 111=some r5∧env.ty 112=some r1∧env.ty 113=some r1∧env.ty 114=some r1∧env.ty 115=some r1∧env.ty 116=some r8∧env.ty 117=some r1∧env.ty 118=some r1∧env.ty 119=some r1) ∧
(env.ty 120=some r45∧env.ty 121=some r1∧env.ty 122=some r1∧env.ty 123=some r1∧env.ty 124=some r1∧env.ty 125=some r1∧env.ty 126=some r34∧env.ty 127=some r1∧env.ty 128=some r1∧env.ty 129=some r1∧env.ty 130=some r1∧env.ty 131=some r1) ∧
(env.ty 132=some r2∧env.ty 133=some r34∧env.ty 134=some r1∧env.ty 135=some r1∧env.ty 136=some r1∧env.ty 137=some r1∧env.ty 138=some r52∧env.ty 139=some r1∧env.ty 140=some r1∧env.ty 141=some r40∧env.ty 142=some r1∧env.ty 143=some r8) ∧
(env.ty 144=some r1∧env.ty 145=some r1∧env.ty 146=some r1∧env.ty 147=some r19∧env.ty 148=some r1∧env.ty 149=some r8∧env.ty 150=some r1∧env.ty 151=some r1∧env.ty 152=some r1∧env.ty 153=some r31∧env.ty 155=some r1∧env.ty 157=some r5) ∧
(env.ty 162=some r49∧env.ty 181=some r36∧env.ty 184=some r46∧env.ty 186=some r32∧env.ty 189=some r42∧env.ty 198=some r35∧env.plan 5 13=some [qO 0,qO 1,qO 2,qO 3,qO 4,qO 6,qO 7,qO 8,qO 9,qO 15,qI 5 [0],qI 10 [0],qI 11 [],qO 12,qO 13,qO 14,qI 16 [],qO 17]∧env.plan 9 18=some [qO 0,qO 1,qO 2,qO 3,qO 4,qO 5,qO 6,qO 7,qO 8,qO 9,qO 10,qI 11 [],qO 12]∧env.plan 10 6=some [qO 0,qO 1,qO 2,qO 3,qO 4,qO 5,qO 6,qO 7,qO 8,qO 9,qO 10]∧env.plan 10 11=some [qO 0,qO 1,qO 2,qO 3,qO 4,qO 5,qO 6,qO 7,qO 8,qO 9,qO 10,qO 11,qO 12]∧env.plan 10 16=some [qO 0,qO 1,qO 2,qO 3,qO 4,qO 5,qO 6,qO 7,qO 8,qO 9,qO 10,qO 11,qO 12,qO 13,qO 14,qO 15,qO 16]∧env.plan 19 1=some [qO 0,qI 1 [],qO 2,qO 3,qO 4,qI 5 [4],qI 6 [],qO 7,qO 8]) ∧
(env.plan 22 6=some [qO 0,qO 1,qO 2,qO 3,qO 4,qO 5,qO 6,qO 7,qO 8,qO 9,qO 10,qI 11 []]∧env.plan 32 1=some [qO 0,qO 1,qO 3,qO 4,qO 5,qI 2 [4,5],qO 6,qO 7,qO 8,qI 9 [],qO 10,qO 11]∧env.plan 33 3=some [qO 0,qO 1,qO 2,qO 3,qO 4,qO 5,qO 6,qO 7,qO 8,qO 9,qO 10,qO 11,qO 12]∧env.plan 33 5=some [qO 0,qO 1,qO 2,qO 3,qO 5,qO 6,qO 7,qO 9,qO 10,qO 11,qI 4 [6],qI 8 [],qI 12 [],qI 13 []]∧env.plan 33 9=some [qO 0,qO 1,qO 2,qO 3,qO 4,qO 5,qO 6,qO 8,qO 9,qO 12,qI 7 [1,4,8],qI 10 [1,4],qI 11 [1,4],qI 13 [],qI 14 []]∧env.plan 42 8=some [qO 0,qO 2,qO 3,qI 1 [0,3],qO 4,qI 5 []]∧env.plan 42 10=some [qO 0,qO 1,qO 2,qO 3,qO 4,qO 5,qO 6,qO 7,qO 8,qO 9,qO 10,qO 11,qO 12,qI 13 [0,1,4,6,8],qI 14 [0],qI 15 []]∧env.plan 42 12=some [qO 0,qO 1,qO 2,qO 3,qO 4,qO 5,qI 6 []]∧env.plan 42 13=some [qO 0,qO 1,qO 2,qO 3,qO 4,qO 5,qO 6,qO 7,qI 8 []]∧env.plan 42 15=some [qO 0,qO 1,qO 2,qO 3,qO 4,qO 5,qO 6,qO 7,qO 8,qO 9,qO 10,qO 11,qO 12,qO 13,qO 14,qI 15 [0,1,4,6,8],qI 16 [0],qI 17 []]∧env.plan 42 16=some [qO 0,qO 1,qO 2,qO 3,qO 4,qO 5,qO 6,qO 7,qI 8 []]∧env.plan 42 18=some [qO 0,qO 1,qO 2,qO 3,qO 4,qO 5,qI 6 []]) ∧
(env.plan 42 19=some [qO 0,qO 1,qO 3,qO 4,qI 2 [0],qI 5 []]∧env.plan 42 21=some [qO 0,qO 1,qO 2,qO 3,qO 4,qO 5,qI 6 []]∧env.plan 42 22=some [qO 0,qO 1,qO 3,qO 4,qI 2 [0],qI 5 []]∧env.plan 42 24=some [qO 0,qO 1,qO 3,qO 4,qI 2 [0],qI 5 []]∧env.plan 42 26=some [qO 0,qO 1,qO 2,qO 3,qO 4,qO 5,qI 6 []]∧env.plan 42 28=some [qO 0,qO 1,qO 2,qO 3,qO 4,qO 5,qI 6 []]∧env.plan 45 14=some [qO 0,qO 1,qO 2,qO 3,qO 4,qO 5,qO 6,qO 7,qO 8,qI 9 [2,4],qI 10 [],qO 11]∧env.plan 45 18=some [qO 0,qO 1,qO 2,qO 3,qO 4,qO 5,qO 6,qO 7,qO 8,qI 9 []]∧env.plan 45 20=some [qO 0,qO 1,qO 2,qO 3,qO 4,qO 5,qO 6,qO 7,qO 8,qO 9,qO 10,qI 11 [2,4],qI 12 [],qO 13]∧env.plan 45 22=some [qO 0,qO 1,qO 2,qO 3,qO 4,qO 5,qO 6,qO 7,qO 8,qI 9 []]∧env.plan 46 1=some [qO 0,qO 1,qO 2,qO 3,qO 4,qO 5,qO 6,qO 7,qO 8,qO 9,qO 10,qO 11,qO 12,qO 13,qO 14,qO 15,qI 16 [3],qO 17,qI 18 []]∧env.plan 61 1=some [qO 0,qO 1,qO 2,qO 3,qO 4,qO 5,qO 6,qO 7]) ∧
(env.plan 61 10=some [qO 0,qO 1,qO 3,qO 4,qI 2 [4],qI 5 [],qO 6,qO 7]∧env.plan 69 10=some [qO 0,qO 1,qO 2,qO 3,qO 4,qO 5,qO 6,qI 7 [],qI 8 []]∧env.plan 71 2=some [qO 0,qO 1,qO 2,qO 3,qO 4,qI 5 [1],qI 6 []]∧env.plan 73 0=some [qO 0,qO 1,qO 2,qO 3,qO 4,qO 5,qI 6 []]∧env.plan 74 0=some [qO 0,qO 1,qO 2,qO 3,qO 4,qO 5,qI 6 []]∧env.plan 75 0=some [qO 0,qO 1,qO 2,qO 3,qO 4,qO 5,qO 6,qO 7,qO 8,qO 9,qO 10,qI 11 [0,2,4],qI 12 []]∧env.plan 76 0=some [qO 0,qO 1,qO 2,qO 3,qO 4,qO 5,qI 6 []]∧env.plan 77 0=some [qO 0,qO 1,qO 2,qO 3,qO 4,qO 5,qI 6 []]∧env.plan 78 0=some [qO 0,qO 1,qO 2,qO 3,qO 4,qO 5,qO 6,qO 7,qI 8 []]∧env.plan 80 2=some [qO 0,qO 1,qO 2,qO 3,qO 4,qO 5,qO 6,qO 7,qO 8,qO 9,qO 10,qO 11,qO 12,qO 13,qO 14,qO 15,qI 16 [3],qO 17,qI 18 []]∧env.plan 80 7=some [qO 0,qO 1,qO 2,qO 3,qO 4,qO 5,qO 6,qO 7,qO 8,qO 9,qO 10,qO 11,qO 12]∧env.plan 81 12=some [qO 0,qO 1,qO 2,qO 3,qO 4,qO 5,qO 6,qO 7,qO 8,qO 9,qO 10,qO 11,qI 12 [3,5],qI 13 []]) ∧
(env.plan 81 24=some [qO 0,qO 1,qO 2,qO 3,qO 4,qO 5,qO 6,qO 7,qO 8,qI 9 []]∧env.plan 83 2=some [qO 0,qO 1,qO 2,qO 3,qO 4,qO 5,qI 6 [2],qI 7 []]∧env.plan 115 0=some [qO 0,qO 1,qO 2,qO 3,qO 4,qO 5,qO 6,qO 7,qO 8,qO 9,qO 10,qO 11,qI 12 []]∧env.plan 117 0=some [qO 0,qO 1,qO 2,qO 3,qO 4,qO 5,qO 6,qO 7,qO 8,qO 9,qO 10,qO 11,qO 12,qO 13,qO 14,qO 15,qO 16,qO 17,qI 18 []]∧env.plan 134 3=some [qO 1,qO 2,qI 0 [2],qI 3 []]∧MT.mt 22=false∧MT.mt 25=false∧MT.mt 27=true∧MT.mt 45=false∧MT.mt 54=true∧MT.mt 63=false∧MT.mt 74=false) ∧
(MT.mt 75=true∧MT.mt 103=true∧MT.mt 162=false∧(∀ k,qO k=⟨k,false,[]⟩)∧(∀ k l,qI k l=⟨k,true,l⟩)∧r0=⟨TK.tup,1,0,some (AV.tup []),false,none⟩∧r1=⟨TK.fn,1,8,some AV.nilFn,false,none⟩∧r2=⟨TK.int IntKind.i64,1,8,some (AV.int IntKind.i64 0),false,none⟩∧r43=⟨TK.bool,1,1,some (AV.bool false),false,none⟩∧r7=⟨TK.int IntKind.u8,1,1,some (AV.int IntKind.u8 0),false,none⟩∧r3=⟨TK.st [(0,1,false),(1,1,false),(2,1,false),(3,1,false)],4,24,some (AV.agg [AV.int IntKind.i64 0,AV.int IntKind.i64 0,AV.bool false,AV.int IntKind.u8 0]),true,some [(0,0),(1,0),(2,2),(3,0)]⟩∧r13=⟨TK.str,1,16,some (AV.str []),false,none⟩) ∧
(r8=⟨TK.int IntKind.u64,1,8,some (AV.int IntKind.u64 0),false,none⟩∧r33=⟨TK.st [(0,1,false),(1,1,false)],2,24,some (AV.agg [AV.str [],AV.int IntKind.u64 0]),true,none⟩∧r4=⟨TK.ptr 186,1,8,some (AV.ptr none),false,none⟩∧r44=⟨TK.ptr 189,1,8,some (AV.ptr none),false,none⟩∧r25=⟨TK.ptr 198,1,8,some (AV.ptr none),false,none⟩∧r14=⟨TK.st [(0,1,false)],1,8,some (AV.agg [AV.ptr none]),true,none⟩∧r47=⟨TK.iface,1,16,some AV.nilIface,false,none⟩∧r16=⟨TK.int IntKind.i32,1,4,some (AV.int IntKind.i32 0),false,none⟩∧r53=⟨TK.sl 24,1,24,some (AV.sl Own.full []),false,none⟩∧r10=⟨TK.st [(0,1,false),(1,1,false),(2,1,false),(3,1,false),(4,1,false),(5,1,false)],6,88,some (AV.agg [AV.str [],AV.str [],AV.str [],AV.int IntKind.i64 0,AV.int IntKind.i64 0,AV.sl Own.full []]),true,none⟩∧r27=⟨TK.sl 9,1,24,some (AV.sl Own.full []),false,none⟩∧r20=⟨TK.sl 54,1,24,some (AV.sl Own.full []),false,none⟩) ∧
(r37=⟨TK.st [(0,1,false),(1,1,false),(2,1,false)],3,56,some (AV.agg [AV.int IntKind.i64 0,AV.sl Own.full [],AV.sl Own.full []]),true,none⟩∧r5=⟨TK.tup,1,0,none,false,none⟩∧r38=⟨TK.sl 25,1,24,some (AV.sl Own.full []),false,none⟩∧r50=⟨TK.ptr 52,1,8,some (AV.ptr none),false,none⟩∧r17=⟨TK.st [(0,3,true)],3,56,some (AV.agg [AV.int IntKind.i64 0,AV.sl Own.full [],AV.sl Own.full []]),true,none⟩∧r54=⟨TK.sl 62,1,24,some (AV.sl Own.full []),false,none⟩∧r29=⟨TK.ptr 59,1,8,some (AV.ptr none),false,none⟩∧r23=⟨TK.st [(0,1,false),(1,1,false)],2,48,some (AV.agg [AV.sl Own.full [],AV.sl Own.full []]),true,none⟩∧r28=⟨TK.st [(0,1,false),(1,1,false)],2,16,some (AV.agg [AV.int IntKind.i64 0,AV.int IntKind.i64 0]),true,some [(0,0),(1,0)]⟩∧r6=⟨TK.sl 71,1,24,some (AV.sl Own.full []),false,none⟩∧r19=⟨TK.tup,1,0,some (AV.tup [AV.sl Own.full [],AV.int IntKind.i64 0,AV.int IntKind.i64 0]),false,none⟩∧r48=⟨TK.ptr 68,1,8,some (AV.ptr none),false,none⟩) ∧
(r15=⟨TK.st [(0,1,false),(1,1,false),(2,1,false),(3,1,false)],4,48,some (AV.agg [AV.sl Own.full [],AV.int IntKind.i64 0,AV.int IntKind.i64 0,AV.int IntKind.i64 0]),true,none⟩∧r11=⟨TK.st [(0,1,false),(1,1,false),(2,1,false),(3,1,false)],4,40,some (AV.agg [AV.int IntKind.i64 0,AV.str [],AV.int IntKind.i64 0,AV.int IntKind.i64 0]),true,some [(0,0),(1,1),(2,0),(3,0)]⟩∧r51=⟨TK.sl 103,1,24,some (AV.sl Own.full []),false,none⟩∧r21=⟨TK.sl 3,1,24,some (AV.sl Own.full []),false,none⟩∧r39=⟨TK.st [(0,3,true),(3,1,false),(4,1,false),(5,1,false),(6,1,false),(7,1,false),(8,1,false)],9,168,some (AV.agg [AV.int IntKind.i64 0,AV.sl Own.full [],AV.sl Own.full [],AV.sl Own.full [],AV.sl Own.full [],AV.bool false,AV.sl Own.full [],AV.sl Own.full [],AV.int IntKind.i64 0]),true,none⟩∧r55=⟨TK.ptr 77,1,8,some (AV.ptr none),false,none⟩∧r18=⟨TK.mp 9 110,1,8,some (AV.map none),false,none⟩∧r30=⟨TK.ptr 91,1,8,some (AV.ptr none),false,none⟩∧r24=⟨TK.st [(0,1,false),(1,1,false)],2,32,some (AV.agg [AV.ptr none,AV.sl Own.full []]),true,none⟩∧r12=⟨TK.sl 107,1,24,some (AV.sl Own.full []),false,none⟩∧r22=⟨TK.st [(0,1,false),(1,1,false),(2,1,false),(3,1,false)],4,48,some (AV.agg [AV.bool false,AV.int IntKind.i64 0,AV.int IntKind.i64 0,AV.sl Own.full []]),true,none⟩∧r41=⟨TK.st [(0,1,false),(1,1,false),(2,1,false),(3,1,false)],4,24,some (AV.agg [AV.bool false,AV.bool false,AV.int IntKind.i64 0,AV.int IntKind.i64 0]),true,some [(0,2),(1,2),(2,0),(3,0)]⟩) ∧
(r45=⟨TK.mp 9 3,1,8,some (AV.map none),false,none⟩∧r34=⟨TK.tup,1,0,some (AV.tup [AV.int IntKind.i64 0,AV.int IntKind.i64 0]),false,none⟩∧r52=⟨TK.tup,1,0,some (AV.tup [AV.int IntKind.i64 0,AV.bool false]),false,none⟩∧r40=⟨TK.int IntKind.u32,1,4,some (AV.int IntKind.u32 0),false,none⟩∧r31=⟨TK.ptr 3,1,8,some (AV.ptr none),false,none⟩∧r49=⟨TK.sl 5,1,24,some (AV.sl Own.full []),false,none⟩∧r36=⟨TK.st [(0,1,false),(1,1,false),(2,1,false)],3,12,some (AV.agg [AV.int IntKind.u32 0,AV.int IntKind.u32 0,AV.int IntKind.u32 0]),true,some [(0,0),(1,0),(2,0)]⟩∧r46=⟨TK.ptr 181,1,8,some (AV.ptr none),false,none⟩∧r32=⟨TK.st [(0,1,false),(1,1,false),(2,1,false),(3,1,false)],4,40,some (AV.agg [AV.ptr none,AV.ptr none,AV.ptr none,AV.str []]),true,none⟩∧r42=⟨TK.st [(0,0,true)],0,0,some (AV.agg []),true,none⟩∧r35=⟨TK.st [(0,1,false),(1,1,false),(2,1,false),(3,1,false),(4,1,false),(5,1,false),(6,1,false),(7,1,false),(8,1,false),(9,1,false),(10,1,false)],11,48,some (AV.agg [AV.int IntKind.u64 0,AV.int IntKind.u64 0,AV.int IntKind.u32 0,AV.int IntKind.u8 0,AV.int IntKind.u8 0,AV.int IntKind.u8 0,AV.int IntKind.u8 0,AV.nilFn,AV.ptr none,AV.int IntKind.i32 0,AV.int IntKind.i32 0]),true,none⟩):=by
 repeat' apply And.intro
 all_goals first|kernel_rfl|(intros;rfl)
theorem MTC:MT.mt 22=false∧MT.mt 25=false∧MT.mt 27=true∧MT.mt 45=false∧MT.mt 54=true∧MT.mt 63=false∧MT.mt 74=false∧MT.mt 75=true∧MT.mt 103=true∧MT.mt 162=false:=⟨rfl,rfl,rfl,rfl,rfl,rfl,rfl,rfl,rfl,rfl⟩
end Go.Proofs.YtogjplcnmibnlaaGreatDoor.Env
namespace Go.Proofs.YtogjplcnmibnlaaGreatDoor.Env
open Go.RowKit Go.Ev
theorem strInfo:∃ i,Tryz.prog.info? 9=some i∧i.zero=some (.string ⟨#[]⟩)∧i.size=1∧i.bytes=16:=⟨_,rfl,rfl,rfl,rfl⟩
theorem grow0 (A:Option Addr) (w:World):Calls Tryz.prog 127 #[.slice A 0 0,.int .i64 0] w fun e w'=>e = .returned (.slice A 0 0)∧w'=w:=by
 go_enter Tryz.func127,Tryz.ntmps127
 go_wp2
 go_ret
 exact⟨rfl,rfl⟩
theorem growN (A:Option Addr) (n:Nat) (h0:0<n) (hb:n*16≤140737488355328) (w:World):Calls Tryz.prog 127 #[.slice A 0 0,.int .i64 n] w fun e w'=>
  e = .returned (.slice (some ⟨w.heap.size,0,none⟩) 0 (grownCap w n 0 9))∧w'=w.drew.alloc (.cells (Builtin.zeroCells (Value.string ⟨#[]⟩).cells n++Builtin.zeroCells (Value.string ⟨#[]⟩).cells (grownCap w n 0 9-n)) 9):=by
 obtain⟨i,i1,i2,i3,i4⟩:=strInfo
 have hr:=run_append_zeros (P:=Tryz.prog) w 25 3 25 9 i (.string ⟨#[]⟩) .i64 .i64 Tryz.underlying25 Tryz.underlying3 i1 i2 A n h0 (by omega) (by omega) (by rw[i4];omega)
 go_enter Tryz.func127,Tryz.ntmps127
 go_wp2_with (at_builtin;refine Lib.wpList_append_run _ rfl _ _ _ _ rfl _ _ rfl rfl _ _ hr ?_)
 go_ret
 exact⟨rfl,rfl⟩
theorem pGrow_ok:cJ Tryz.prog 127 (primGrow 9 1 16):=by
 refine⟨⟨Tryz.f127,Tryz.func127,by kernel_rfl,by kernel_rfl⟩,fun args h v h' he G w A I hA => ?_⟩
 unfold primGrow at he
 split at he
 ·rename_i n
  obtain⟨l⟩:=A
  obtain⟨V0,l,rfl,r0,hA⟩:=hA.uncons
  obtain⟨V1,l,rfl,r1,hA⟩:=hA.uncons
  have:l=[]:=List.eq_nil_of_length_eq_zero hA.1
  subst this
  obtain⟨B,rfl⟩:∃ B,V0 = .slice B 0 0:=by
   cases r0 with
   | sl0 A cap o hn ho=>have:cap=0:=ho;subst this;exact⟨A,rfl⟩
   | sl b off len cap s o els f hl hc hs h1 h2 ho=>
    have e1:len=0:=by rw[←hl];rfl
    have e2:cap=len:=ho
    subst e1;subst e2
    exact⟨_,rfl⟩
  cases r1
  cases hz:Nat.beq n 0 with
  | true=>
   rw[hz]at he
   simp only[cond_true,Option.some.injEq,Prod.mk.injEq]at he
   obtain⟨rfl,rfl⟩:=he
   have:=bV.1 hz
   subst this
   refine(grow0 B w).mono ?_
   rintro e w' ⟨rfl,rfl⟩
   exact⟨G,_,rfl,r0,I,Ext.refl G w' h⟩
  | false=>
   rw[hz]at he
   simp only[cond_false]at he
   cases hb:Nat.ble (n*16) 140737488355328 with
   | false=>rw[hb]at he;simp at he
   | true=>
    rw[hb]at he
    simp only[cond_true,Option.some.injEq,Prod.mk.injEq]at he
    obtain⟨rfl,rfl⟩:=he
    have hle:=Nat.le_of_ble_eq_true hb
    have h0:0<n:=by
     rcases Nat.eq_zero_or_pos n with rfl|h
     ·simp at hz
     ·exact h
    refine(growN B n h0 hle w).mono ?_
    rintro e w' ⟨rfl,rfl⟩
    have I1:Inv G w.drew h:=grow_inv I rfl rfl rfl (Nat.le_refl _) fun _ _=>rfl
    have X1:Ext G w h G w.drew h:=grow_ext G h rfl rfl rfl (Nat.le_refl _) fun _ _=>rfl
    have hge:=grownCap_ge w n 0 9
    obtain⟨G',I2,X2,r⟩:=new_room I1 (e:=9) (s:=1) (cap:=grownCap w n 0 9) (C:=Builtin.zeroCells (Value.string ⟨#[]⟩).cells n++Builtin.zeroCells (Value.string ⟨#[]⟩).cells (grownCap w n 0 9-n)) (by omega) (grownCap_le_maxLen w n 0 9 (by simp only[maxLen];omega))
     (by simp only[Array.size_append,size_zeroCells,Value.cells,List.size_toArray,List.length_cons,List.length_nil];omega)
    exact⟨G',_,rfl,r,I2,X1.trans X2⟩
 ·cases he
end Go.Proofs.YtogjplcnmibnlaaGreatDoor.Env
