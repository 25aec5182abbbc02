import Derived.Shelf.Strings.Search3
import Derived.Shelf.LaysM
import Derived.Shelf.Strings.Shaped
import Derived.Test.YtmmdeeeifpepjacGreatDoorCards
import Derived.Test.YtmmdeeeifpepjacGreatDoorTie
import Derived.ProofKit
import Derived.Deep.DeepHandedRow
import Derived.LaidLaws
import Derived.Test.YtmmdeeeifpepjacGreatDoorAsZF2
set_option linter.unusedSectionVars false
set_option linter.unusedVariables false
set_option linter.unusedSimpArgs false
section
namespace Go.As.Try
open Go hiding Stat
open Go.As Go.Proofs
set_option maxRecDepth 100000
abbrev nO {α:Type} (l r:Tr α):Tr α:=.node none l r
abbrev nS {α:Type} (v:α) (l r:Tr α):Tr α:=.node (some v) l r
abbrev nL {α:Type} (v:α):Tr α:=.node (some v) .nil .nil
abbrev hP (m n:Nat) (l:List Nat):JR:=⟨m,.pa,n,l⟩
abbrev hR (m n:Nat) (l:List Nat):JR:=⟨m,.r,n,l⟩
abbrev hE (m n:Nat) (l:List Nat):JR:=⟨m,.e,n,l⟩
abbrev tF:TI:=⟨.func,1,8,[.BI],false,none⟩
abbrev zI:AV:=.int .i64 (.lit 0)
abbrev zU:AV:=.int .u8 (.lit 0)
def tab:Tr TI:=(nO (nS tF (nS ⟨.int .i64,1,8,[zI],false,none⟩ (nS ⟨.struct [(0,2,1),(1,3,1),(2,4,1),(3,6,1)],4,24,[zI,zI,.bool (.lit false),zU],true,none⟩ (nS ⟨.pointer 293,1,8,[.jS],false,none⟩ (nS ⟨.slice 47,1,24,[.aA],false,none⟩ (nO (nS ⟨.struct [(0,34,1),(1,3,1)],2,16,[zI,zI],true,none⟩ (nL tF) .nil) (nL ⟨.struct [(0,3,1),(1,134,1),(2,2,1),(3,30,1),(4,85,4)],8,80,[zI,.jS,zI,.aA,zU,zI,zI,zI],false,none⟩)) (nS tF (nL ⟨.struct [(0,3,1),(1,3,1)],2,16,[zI,zI],true,none⟩) (nL ⟨.struct [(0,222,1),(1,182,1)],2,16,[.mO,.mO],false,none⟩))) (nS ⟨.struct [(0,3,1),(1,45,1),(2,27,1),(3,3,1),(4,2,1),(5,2,1)],6,64,[zI,.aA,zU,zI,zI,zI],false,none⟩ (nS ⟨.int .u8,1,1,[zU],false,none⟩ (nS tF (nL tF) .nil) (nL ⟨.struct [(0,206,1),(1,27,1),(2,9,1),(3,9,1),(4,2,1),(5,76,1),(6,171,1),(7,171,1),(8,3,1)],9,128,[zU,zU,.str [],.str [],zI,.aA,.aA,.aA,zI],false,none⟩)) (nS tF (nS tF (nL ⟨.struct [(0,12,1),(1,12,1),(2,284,1),(3,297,1),(4,5,1),(5,5,1),(6,298,1),(7,299,1),(8,300,1),(9,301,1),(10,302,1)],11,48,[.int .u64 (.lit (0)),.int .u64 (.lit (0)),.int .u32 (.lit (0)),zU,zU,zU,zU,.BI,.jS,.int .i32 (.lit (0)),.int .i32 (.lit (0))],false,none⟩) .nil) (nL tF)))) (nS ⟨.slice 74,1,24,[.aA],false,none⟩ (nS ⟨.slice 33,1,24,[.aA],false,none⟩ (nS ⟨.slice 9,1,24,[.aA],false,none⟩ (nS tF (nL tF) .nil) (nL tF)) (nS ⟨.struct [(0,100,1),(1,9,1),(2,2,1),(3,9,1),(4,3,1)],5,56,[zU,.str [],zI,.str [],zI],true,none⟩ (nS ⟨.array 9 9,9,144,[.str [],.str [],.str [],.str [],.str [],.str [],.str [],.str [],.str []],false,none⟩ (nL ⟨.struct [(0,294,0)],0,0,[],false,none⟩) .nil) (nL tF))) (nS tF (nS tF (nS tF (nL tF) .nil) (nL tF)) (nS tF (nL ⟨.pointer 185,1,8,[.jS],false,none⟩) (nL tF))))) (nS ⟨.string,1,16,[.str []],false,none⟩ (nS ⟨.struct [(0,17,1)],1,8,[.jS],false,none⟩ (nO (nS tF (nS tF (nL tF) .nil) (nL tF)) (nS ⟨.struct [(0,25,2),(2,97,1)],3,56,[.aA,.aA,.mO],false,none⟩ (nS ⟨.struct [(0,162,1),(1,9,1),(2,2,1),(3,3,1),(4,3,1),(5,3,1)],6,56,[zU,.str [],zI,zI,zI,zI],true,none⟩ (nL ⟨.array 64 5,64,64,(repeatL [zU] 64),false,none⟩) .nil) (nL tF))) (nS tF (nS tF (nS ⟨.map 3 3,1,8,[.mO],false,none⟩ (nL ⟨.int .u64,1,8,[.int .u64 (.lit (0))],false,none⟩) .nil) (nL tF)) (nS tF (nL ⟨.struct [(0,3,1),(1,4,1),(2,4,1)],3,16,[zI,.bool (.lit false),.bool (.lit false)],true,none⟩) (nL tF)))) (nS ⟨.int .u8,1,1,[zU],false,none⟩ (nS tF (nS ⟨.int .u8,1,1,[zU],false,none⟩ (nS ⟨.map 75 1,1,8,[.mO],false,none⟩ (nL ⟨.slice 5,1,24,[.aA],false,none⟩) .nil) (nL tF)) (nS tF (nS ⟨.slice 208,1,24,[.aA],false,none⟩ (nL tF) .nil) (nL ⟨.map 9 2,1,8,[.mO],false,none⟩))) (nS tF (nO (nS tF (nL ⟨.array 20 275,20,160,(repeatL [.int .u64 (.lit (0))] 20),false,none⟩) .nil) (nL tF)) (nS ⟨.slice 173,1,24,[.aA],false,none⟩ (nL tF) (nL tF)))))) (nS ⟨.int .u8,1,1,[zU],false,none⟩ (nS ⟨.string,1,16,[.str []],false,none⟩ (nS ⟨.pointer 304,1,8,[.jS],false,none⟩ (nS ⟨.struct [(0,30,1),(1,31,1)],2,48,[.aA,.aA],false,none⟩ (nS tF (nS tF (nL tF) .nil) .nil) (nS ⟨.map 3 108,1,8,[.mO],false,none⟩ (nS ⟨.pointer 166,1,8,[.jS],false,none⟩ (nL tF) .nil) (nL tF))) (nS tF (nS ⟨.struct [(0,79,1),(1,9,1),(2,2,1),(3,76,1)],4,56,[zU,.str [],zI,.aA],false,none⟩ (nS tF (nL ⟨.array 2 71,2,48,[.aA,.aA],false,none⟩) .nil) (nL tF)) (nS tF (nL ⟨.pointer 179,1,8,[.jS],false,none⟩) (nL tF)))) (nS ⟨.struct [(0,22,1),(1,23,1)],2,48,[.aA,.aA],false,none⟩ (nS ⟨.int .u8,1,1,[zU],false,none⟩ (nS ⟨.struct [(0,9,1),(1,71,1),(2,72,1)],3,64,[.str [],.aA,.aA],false,none⟩ (nS tF (nL tF) .nil) .nil) (nO (nS tF (nL ⟨.int .u8,1,1,[zU],false,none⟩) .nil) (nL ⟨.struct [(0,4,1)],1,1,[.bool (.lit false)],true,none⟩))) (nS tF (nS tF (nS tF (nL ⟨.int .u64,1,8,[.int .u64 (.lit (0))],false,none⟩) .nil) (nL tF)) (nS ⟨.struct [(0,3,1),(1,2,1),(2,4,1),(3,2,1),(4,26,1),(5,45,1)],6,80,[zI,zI,.bool (.lit false),zI,.aA,.aA],false,none⟩ (nL ⟨.struct [(0,182,1),(1,74,3),(4,3,1)],5,80,[.mO,.str [],.aA,.aA,zI],false,none⟩) (nL tF))))) (nS ⟨.struct [(0,9,1),(1,12,1)],2,24,[.str [],.int .u64 (.lit (0))],false,none⟩ (nS ⟨.int .i32,1,4,[.int .i32 (.lit (0))],false,none⟩ (nS tF (nS tF (nL tF) .nil) (nS tF (nS ⟨.struct [(0,9,1),(1,164,6),(7,127,2),(9,3,1)],10,96,[.str [],zU,.str [],zI,zI,zI,zI,zI,zI,zI],false,none⟩ (nL ⟨.struct [(0,17,1),(1,17,1),(2,17,1),(3,9,1)],4,40,[.jS,.jS,.jS,.str []],false,none⟩) .nil) (nL tF))) (nS ⟨.struct [(0,52,1),(1,3,1)],2,32,[.aA,zI],false,none⟩ (nS ⟨.struct [(0,27,1),(1,3,1),(2,2,1),(3,2,1)],4,32,[zU,zI,zI,zI],true,none⟩ (nS ⟨.struct [(0,3,1),(1,147,1),(2,2,1),(3,2,1),(4,4,1),(5,45,1)],6,64,[zI,.mO,zI,zI,.bool (.lit false),.aA],false,none⟩ (nL tF) .nil) (nL tF)) (nS tF (nL tF) (nL ⟨.array 256 5,256,256,(repeatL [zU] 256),false,none⟩)))) (nS ⟨.struct [(0,3,1),(1,27,1),(2,3,1),(3,2,1),(4,2,1)],5,40,[zI,zU,zI,zI,zI],true,none⟩ (nS ⟨.slice 2,1,24,[.aA],false,none⟩ (nS ⟨.struct [(0,75,1),(1,27,1),(2,3,1),(3,3,1),(4,3,1),(5,2,1),(6,76,1)],7,64,[zU,zU,zI,zI,zI,zI,.aA],false,none⟩ (nS tF (nL tF) .nil) (nL tF)) (nS tF (nS ⟨.struct [(0,9,1),(1,171,1),(2,3,1)],3,48,[.str [],.aA,zI],false,none⟩ (nL ⟨.int .i32,1,4,[.int .i32 (.lit (0))],false,none⟩) .nil) (nL tF))) (nS ⟨.struct [(0,33,2),(2,45,1)],3,72,[.aA,.aA,.aA],false,none⟩ (nS tF (nS tF (nL ⟨.array 65 5,65,65,(repeatL [zU] 65),false,none⟩) .nil) (nL ⟨.pointer 224,1,8,[.jS],false,none⟩)) (nS ⟨.struct [(0,22,1),(1,123,1)],2,48,[.aA,.aA],false,none⟩ (nL ⟨.pointer 191,1,8,[.jS],false,none⟩) (nL ⟨.array 23 9,23,368,(repeatL [.str []] 23),false,none⟩))))))) (nS ⟨.int .i64,1,8,[zI],false,none⟩ (nS ⟨.bool,1,1,[.bool (.lit false)],false,none⟩ (nS ⟨.struct [(0,2,1),(1,3,1),(2,4,1),(3,6,1)],4,24,[zI,zI,.bool (.lit false),zU],true,none⟩ (nS ⟨.pointer 296,1,8,[.jS],false,none⟩ (nS ⟨.struct [(0,30,1),(1,31,1)],2,48,[.aA,.aA],false,none⟩ (nS tF (nO (nL ⟨.pointer 208,1,8,[.jS],false,none⟩) .nil) (nL tF)) (nS ⟨.pointer 99,1,8,[.jS],false,none⟩ (nS ⟨.struct [(0,3,1),(1,3,1)],2,16,[zI,zI],true,none⟩ (nL tF) .nil) (nL ⟨.struct [(0,222,1),(1,182,1)],2,16,[.mO,.mO],false,none⟩))) (nO (nS ⟨.struct [(0,79,1),(1,9,1),(2,2,1),(3,76,1)],4,56,[zU,.str [],zI,.aA],false,none⟩ (nS tF (nL tF) .nil) (nL ⟨.struct [(0,206,1),(1,27,1),(2,9,1),(3,9,1),(4,2,1),(5,76,1),(6,171,1),(7,171,1),(8,3,1)],9,128,[zU,zU,.str [],.str [],zI,.aA,.aA,.aA,zI],false,none⟩)) (nO (nS tF (nL ⟨.struct [(0,12,1),(1,12,1),(2,284,1),(3,297,1),(4,5,1),(5,5,1),(6,298,1),(7,299,1),(8,300,1),(9,301,1),(10,302,1)],11,48,[.int .u64 (.lit (0)),.int .u64 (.lit (0)),.int .u32 (.lit (0)),zU,zU,zU,zU,.BI,.jS,.int .i32 (.lit (0)),.int .i32 (.lit (0))],false,none⟩) .nil) (nL tF)))) (nS ⟨.struct [(0,22,1),(1,23,1)],2,48,[.aA,.aA],false,none⟩ (nS ⟨.slice 4,1,24,[.aA],false,none⟩ (nS ⟨.slice 78,1,24,[.aA],false,none⟩ (nS tF (nL ⟨.array 2 171,2,48,[.aA,.aA],false,none⟩) .nil) (nL tF)) (nS tF (nS tF (nL ⟨.struct [(0,294,0)],0,0,[],false,none⟩) .nil) (nL tF))) (nO (nS tF (nS tF (nL tF) .nil) (nL tF)) (nS tF (nL ⟨.struct [(0,182,1),(1,74,3),(4,3,1)],5,80,[.mO,.str [],.aA,.aA,zI],false,none⟩) (nL ⟨.pointer 245,1,8,[.jS],false,none⟩))))) (nS ⟨.int .u64,1,8,[.int .u64 (.lit (0))],false,none⟩ (nS ⟨.iface true,1,16,[.ES],false,none⟩ (nS tF (nS tF (nS tF (nL tF) .nil) (nL ⟨.int .u8,1,1,[zU],false,none⟩)) (nS ⟨.int .u8,1,1,[zU],false,none⟩ (nS ⟨.struct [(0,162,1),(1,9,1),(2,2,1),(3,3,1),(4,3,1),(5,3,1)],6,56,[zU,.str [],zI,zI,zI,zI],true,none⟩ (nL ⟨.struct [(0,17,1),(1,17,1),(2,17,1),(3,9,1)],4,40,[.jS,.jS,.jS,.str []],false,none⟩) .nil) (nL tF))) (nS ⟨.slice 29,1,24,[.aA],false,none⟩ (nS ⟨.struct [(0,27,1),(1,3,1),(2,2,1),(3,2,1)],4,32,[zU,zI,zI,zI],true,none⟩ (nS ⟨.struct [(0,3,1),(1,147,1),(2,2,1),(3,2,1),(4,4,1),(5,45,1)],6,64,[zI,.mO,zI,zI,.bool (.lit false),.aA],false,none⟩ (nL tF) .nil) (nL tF)) (nS tF (nL tF) (nL tF)))) (nS ⟨.struct [(0,3,1),(1,27,1),(2,3,1),(3,2,1),(4,2,1)],5,40,[zI,zU,zI,zI,zI],true,none⟩ (nS tF (nS ⟨.slice 81,1,24,[.aA],false,none⟩ (nO (nL tF) .nil) (nL tF)) (nS ⟨.pointer 149,1,8,[.jS],false,none⟩ (nS ⟨.struct [(0,9,1),(1,171,1),(2,3,1)],3,48,[.str [],.aA,zI],false,none⟩ (nL ⟨.pointer 5,1,8,[.jS],false,none⟩) .nil) (nL ⟨.array 27 100,27,27,(repeatL [zU] 27),false,none⟩))) (nS ⟨.array 2 26,2,48,[.aA,.aA],false,none⟩ (nS tF (nS tF (nL ⟨.int .u32,1,4,[.int .u32 (.lit (0))],false,none⟩) .nil) (nL tF)) (nS ⟨.struct [(0,22,1),(1,123,1)],2,48,[.aA,.aA],false,none⟩ (nL tF) (nL tF)))))) (nS ⟨.int .u8,1,1,[zU],false,none⟩ (nS ⟨.string,1,16,[.str []],false,none⟩ (nS ⟨.struct [(0,17,1)],1,8,[.jS],false,none⟩ (nS ⟨.int .i64,1,8,[zI],false,none⟩ (nS tF (nO (nL tF) .nil) (nL ⟨.map 27 192,1,8,[.mO],false,none⟩)) (nS ⟨.struct [(0,25,2),(2,97,1)],3,56,[.aA,.aA,.mO],false,none⟩ (nS ⟨.int .u8,1,1,[zU],false,none⟩ (nL ⟨.array 32 5,32,32,(repeatL [zU] 32),false,none⟩) .nil) (nL tF))) (nS tF (nS tF (nS tF (nL ⟨.array 24 5,24,24,(repeatL [zU] 24),false,none⟩) .nil) .nil) (nS tF (nL ⟨.struct [(0,3,1),(1,4,1),(2,4,1)],3,16,[zI,.bool (.lit false),.bool (.lit false)],true,none⟩) (nL tF)))) (nS ⟨.slice 3,1,24,[.aA],false,none⟩ (nO (nS ⟨.struct [(0,9,1),(1,71,1),(2,72,1)],3,64,[.str [],.aA,.aA],false,none⟩ (nS ⟨.pointer 47,1,8,[.jS],false,none⟩ (nL tF) .nil) (nL tF)) (nS ⟨.map 27 104,1,8,[.mO],false,none⟩ (nS tF (nL ⟨.int .u8,1,1,[zU],false,none⟩) .nil) (nL ⟨.map 9 233,1,8,[.mO],false,none⟩))) (nS tF (nS ⟨.pointer 33,1,8,[.jS],false,none⟩ (nS tF (nL tF) .nil) (nL tF)) (nS ⟨.struct [(0,3,1),(1,2,1),(2,4,1),(3,2,1),(4,26,1),(5,45,1)],6,80,[zI,zI,.bool (.lit false),zI,.aA,.aA],false,none⟩ (nL tF) (nL tF))))) (nS ⟨.struct [(0,9,1),(1,12,1)],2,24,[.str [],.int .u64 (.lit (0))],false,none⟩ (nS ⟨.slice 103,1,24,[.aA],false,none⟩ (nS tF (nS tF (nS ⟨.pointer 122,1,8,[.jS],false,none⟩ (nL tF) .nil) (nL ⟨.slice 100,1,24,[.aA],false,none⟩)) (nS ⟨.struct [(0,100,1),(1,9,1),(2,2,1),(3,9,1),(4,3,1)],5,56,[zU,.str [],zI,.str [],zI],true,none⟩ (nS ⟨.struct [(0,9,1),(1,164,6),(7,127,2),(9,3,1)],10,96,[.str [],zU,.str [],zI,zI,zI,zI,zI,zI,zI],false,none⟩ (nL ⟨.array 0 16,0,0,[],false,none⟩) .nil) (nL tF))) (nS ⟨.struct [(0,52,1),(1,3,1)],2,32,[.aA,zI],false,none⟩ .nil (nS tF (nL ⟨.map 9 3,1,8,[.mO],false,none⟩) (nL tF)))) (nS ⟨.slice 122,1,24,[.aA],false,none⟩ (nS ⟨.struct [(0,3,1),(1,45,1),(2,27,1),(3,3,1),(4,2,1),(5,2,1)],6,64,[zI,.aA,zU,zI,zI,zI],false,none⟩ (nS ⟨.struct [(0,75,1),(1,27,1),(2,3,1),(3,3,1),(4,3,1),(5,2,1),(6,76,1)],7,64,[zU,zU,zI,zI,zI,zI,.aA],false,none⟩ (nS tF (nL tF) .nil) (nL ⟨.int .u8,1,1,[zU],false,none⟩)) (nO (nS tF (nL ⟨.int .i32,1,4,[.int .i32 (.lit (0))],false,none⟩) .nil) (nL tF))) (nS ⟨.struct [(0,33,2),(2,45,1)],3,72,[.aA,.aA,.aA],false,none⟩ (nS tF (nS ⟨.pointer 160,1,8,[.jS],false,none⟩ (nL tF) .nil) (nL ⟨.map 9 100,1,8,[.mO],false,none⟩)) (nS ⟨.struct [(0,34,1),(1,3,1)],2,16,[zI,zI],true,none⟩ (nL ⟨.struct [(0,3,1),(1,134,1),(2,2,1),(3,30,1),(4,85,4)],8,80,[zI,.jS,zI,.aA,zU,zI,zI,zI],false,none⟩) (nL tF))))))))
noncomputable def UL:Tr Func:=(nS Tryz.f0 (nS Tryz.f1 (nS Tryz.f3 (nS Tryz.f7 (nS Tryz.f15 (nS Tryz.f31 (nS Tryz.f63 (nS Tryz.f127 (nL Tryz.f255) .nil) (nL Tryz.f191)) (nS Tryz.f95 (nL Tryz.f159) (nL Tryz.f223))) (nS Tryz.f47 (nS Tryz.f79 (nL Tryz.f143) (nL Tryz.f207)) (nS Tryz.f111 (nL Tryz.f175) (nL Tryz.f239)))) (nS Tryz.f23 (nS Tryz.f39 (nS Tryz.f71 (nL Tryz.f135) (nL Tryz.f199)) (nS Tryz.f103 (nL Tryz.f167) (nL Tryz.f231))) (nS Tryz.f55 (nS Tryz.f87 (nL Tryz.f151) (nL Tryz.f215)) (nS Tryz.f119 (nL Tryz.f183) (nL Tryz.f247))))) (nS Tryz.f11 (nS Tryz.f19 (nS Tryz.f35 (nS Tryz.f67 (nS Tryz.f131 (nL Tryz.f259) .nil) (nL Tryz.f195)) (nS Tryz.f99 (nL Tryz.f163) (nL Tryz.f227))) (nS Tryz.f51 (nS Tryz.f83 (nL Tryz.f147) (nL Tryz.f211)) (nS Tryz.f115 (nL Tryz.f179) (nL Tryz.f243)))) (nS Tryz.f27 (nS Tryz.f43 (nS Tryz.f75 (nL Tryz.f139) (nL Tryz.f203)) (nS Tryz.f107 (nL Tryz.f171) (nL Tryz.f235))) (nS Tryz.f59 (nS Tryz.f91 (nL Tryz.f155) (nL Tryz.f219)) (nS Tryz.f123 (nL Tryz.f187) (nL Tryz.f251)))))) (nS Tryz.f5 (nS Tryz.f9 (nS Tryz.f17 (nS Tryz.f33 (nS Tryz.f65 (nS Tryz.f129 (nL Tryz.f257) .nil) (nL Tryz.f193)) (nS Tryz.f97 (nL Tryz.f161) (nL Tryz.f225))) (nS Tryz.f49 (nS Tryz.f81 (nL Tryz.f145) (nL Tryz.f209)) (nS Tryz.f113 (nL Tryz.f177) (nL Tryz.f241)))) (nS Tryz.f25 (nS Tryz.f41 (nS Tryz.f73 (nL Tryz.f137) (nL Tryz.f201)) (nS Tryz.f105 (nL Tryz.f169) (nL Tryz.f233))) (nS Tryz.f57 (nS Tryz.f89 (nL Tryz.f153) (nL Tryz.f217)) (nS Tryz.f121 (nL Tryz.f185) (nL Tryz.f249))))) (nS Tryz.f13 (nS Tryz.f21 (nS Tryz.f37 (nS Tryz.f69 (nL Tryz.f133) (nL Tryz.f197)) (nS Tryz.f101 (nL Tryz.f165) (nL Tryz.f229))) (nS Tryz.f53 (nS Tryz.f85 (nL Tryz.f149) (nL Tryz.f213)) (nS Tryz.f117 (nL Tryz.f181) (nL Tryz.f245)))) (nS Tryz.f29 (nS Tryz.f45 (nS Tryz.f77 (nL Tryz.f141) (nL Tryz.f205)) (nS Tryz.f109 (nL Tryz.f173) (nL Tryz.f237))) (nS Tryz.f61 (nS Tryz.f93 (nL Tryz.f157) (nL Tryz.f221)) (nS Tryz.f125 (nL Tryz.f189) (nL Tryz.f253))))))) (nS Tryz.f2 (nS Tryz.f4 (nS Tryz.f8 (nS Tryz.f16 (nS Tryz.f32 (nS Tryz.f64 (nS Tryz.f128 (nL Tryz.f256) .nil) (nL Tryz.f192)) (nS Tryz.f96 (nL Tryz.f160) (nL Tryz.f224))) (nS Tryz.f48 (nS Tryz.f80 (nL Tryz.f144) (nL Tryz.f208)) (nS Tryz.f112 (nL Tryz.f176) (nL Tryz.f240)))) (nS Tryz.f24 (nS Tryz.f40 (nS Tryz.f72 (nL Tryz.f136) (nL Tryz.f200)) (nS Tryz.f104 (nL Tryz.f168) (nL Tryz.f232))) (nS Tryz.f56 (nS Tryz.f88 (nL Tryz.f152) (nL Tryz.f216)) (nS Tryz.f120 (nL Tryz.f184) (nL Tryz.f248))))) (nS Tryz.f12 (nS Tryz.f20 (nS Tryz.f36 (nS Tryz.f68 (nL Tryz.f132) (nL Tryz.f196)) (nS Tryz.f100 (nL Tryz.f164) (nL Tryz.f228))) (nS Tryz.f52 (nS Tryz.f84 (nL Tryz.f148) (nL Tryz.f212)) (nS Tryz.f116 (nL Tryz.f180) (nL Tryz.f244)))) (nS Tryz.f28 (nS Tryz.f44 (nS Tryz.f76 (nL Tryz.f140) (nL Tryz.f204)) (nS Tryz.f108 (nL Tryz.f172) (nL Tryz.f236))) (nS Tryz.f60 (nS Tryz.f92 (nL Tryz.f156) (nL Tryz.f220)) (nS Tryz.f124 (nL Tryz.f188) (nL Tryz.f252)))))) (nS Tryz.f6 (nS Tryz.f10 (nS Tryz.f18 (nS Tryz.f34 (nS Tryz.f66 (nS Tryz.f130 (nL Tryz.f258) .nil) (nL Tryz.f194)) (nS Tryz.f98 (nL Tryz.f162) (nL Tryz.f226))) (nS Tryz.f50 (nS Tryz.f82 (nL Tryz.f146) (nL Tryz.f210)) (nS Tryz.f114 (nL Tryz.f178) (nL Tryz.f242)))) (nS Tryz.f26 (nS Tryz.f42 (nS Tryz.f74 (nL Tryz.f138) (nL Tryz.f202)) (nS Tryz.f106 (nL Tryz.f170) (nL Tryz.f234))) (nS Tryz.f58 (nS Tryz.f90 (nL Tryz.f154) (nL Tryz.f218)) (nS Tryz.f122 (nL Tryz.f186) (nL Tryz.f250))))) (nS Tryz.f14 (nS Tryz.f22 (nS Tryz.f38 (nS Tryz.f70 (nL Tryz.f134) (nL Tryz.f198)) (nS Tryz.f102 (nL Tryz.f166) (nL Tryz.f230))) (nS Tryz.f54 (nS Tryz.f86 (nL Tryz.f150) (nL Tryz.f214)) (nS Tryz.f118 (nL Tryz.f182) (nL Tryz.f246)))) (nS Tryz.f30 (nS Tryz.f46 (nS Tryz.f78 (nL Tryz.f142) (nL Tryz.f206)) (nS Tryz.f110 (nL Tryz.f174) (nL Tryz.f238))) (nS Tryz.f62 (nS Tryz.f94 (nL Tryz.f158) (nL Tryz.f222)) (nS Tryz.f126 (nL Tryz.f190) (nL Tryz.f254))))))))
def htab:Tr (Tr Tz):=(nO (nO (nS (nO (nO (nO (nO .nil (nL ⟨[],0,⟨[hR 0 0 [3],hP 0 0 [9],hP 0 0 [12],hP 6 0 [157,158],hR 14 0 [159],hR 0 0 [14],hE 63 0 [156,160,161],hP 127 1 [162],hP 255 1 [155],hP 255 1 [155],hP 0 1 [],hE 1535 1 [19,163],hP 4095 2 [164]],2,[(0,[0]),(4,[0]),(5,[0])]⟩⟩)) .nil) (nO (nL ⟨[],0,⟨[hP 0 0 [1],hP 0 0 [11],hP 3 0 [60,61],hR 7 0 [62],hP 0 0 [3],hR 16 0 [64],hR 48 0 [65],hP 127 0 [63,66],hP 0 0 [3],hR 256 0 [68],hR 768 0 [69],hP 2047 0 [67,70],hP 0 0 [3],hR 4096 0 [72],hR 12288 0 [73],hP 32767 0 [71,74],hP 65535 0 [75]],0,[(3,[0]),(5,[0]),(6,[0]),(9,[0]),(10,[0]),(13,[0]),(14,[0])]⟩⟩) .nil)) (nO (nO (nO (nL ⟨[],0,⟨[hP 0 0 [16],hP 0 0 [12],hP 3 0 [94,95],hP 7 0 [96],hP 15 0 [97,13],hR 31 0 [97,98],hP 15 0 [97,16],hP 127 0 [97,99,100],hP 255 0 [97,101],hR 511 0 [97,102],hP 15 0 [97,7],hR 1039 0 [97,104],hP 15 0 [97,16],hP 7183 0 [97,105,106],hP 15375 0 [97,107],hR 31759 0 [97,108],hP 65535 0 [97,103,109],hP 131071 0 [97,110],hP 262143 0 [111,13],hR 524287 0 [111,112],hP 262143 0 [111,16],hP 2097151 0 [111,113,114],hP 4194303 0 [111,115],hR 8388607 0 [111,116],hR 16777215 0 [111,117],hP 262143 0 [111,7],hR 33816575 0 [111,119],hP 262143 0 [111,16],hP 235143167 0 [111,120,121],hP 503578623 0 [111,122],hR 1040449535 0 [111,123],hR 2114191359 0 [111,124],hP 4294967295 0 [111,118,125],hP 8589934591 0 [97,111,126],hP 17179869183 0 [97,127]],0,[(5,[0]),(9,[0]),(11,[0]),(15,[0]),(19,[0]),(23,[0]),(24,[0]),(26,[0]),(30,[0]),(31,[0])]⟩⟩) .nil) .nil) .nil)) (nS (nO (nO .nil (nL ⟨[],0,⟨[hP 0 0 [3],hP 0 0 [1],hR 2 0 [22],hP 0 0 [4],hP 14 0 [23,24],hP 30 0 [25],hR 62 0 [26],hR 126 0 [27],hP 0 0 [1],hR 256 0 [29],hP 0 0 [4],hP 1792 0 [30,31],hP 3840 0 [32],hR 7936 0 [33],hR 16128 0 [34],hP 32766 0 [28,35],hP 65535 0 [21,36],hP 131071 0 [37]],0,[(2,[0]),(6,[0]),(7,[0]),(9,[0]),(13,[0]),(14,[0])]⟩⟩)) .nil) (nO (nS (nO .nil (nL ⟨[],0,⟨[hP 0 0 [3],hR 1 0 [15],hP 0 0 [2],hP 7 0 [16,17],hP 15 0 [18],hR 31 0 [19],hR 0 0 [6],hP 64 0 [21],hP 192 0 [22],hR 448 0 [23],hP 1023 0 [20,24],hR 2047 0 [25],hP 0 0 [],hE 8191 0 [7,26]],1,[(1,[0]),(5,[0]),(6,[0]),(9,[0]),(11,[0])]⟩⟩)) .nil (nL (nO .nil (nO .nil (nL ⟨[],0,⟨[hP 0 0 [2],hR 1 0 [26],hP 0 0 [5],hR 4 0 [28],hP 15 0 [27,29],hP 31 0 [30],hR 63 0 [31],hP 0 0 [5],hR 128 0 [33],hP 511 0 [32,34],hP 1023 0 [35]],0,[(1,[0]),(3,[0]),(6,[0]),(8,[0])]⟩⟩))))) (nO .nil (nL (nO .nil (nO .nil (nO (nL ⟨[],0,⟨[hP 0 0 [3],hP 1 0 [34],hP 3 0 [35],hR 7 0 [36],hP 0 0 [5],hR 16 0 [38],hP 0 0 [5],hR 64 0 [40],hE 255 0 [37,39,41]],1,[(3,[0]),(5,[0]),(7,[0])]⟩⟩) .nil)))))) (nO (nO (nL (nO (nL ⟨[],0,⟨[hR 0 0 [1],hE 1 0 [5],hP 0 1 [2],hR 4 1 [7],hE 15 1 [6,8],hP 31 2 [9]],2,[(0,[0]),(3,[0,1])]⟩⟩) .nil)) (nO (nL (nO .nil (nL ⟨[],0,⟨[hR 0 0 [0],hP 1 0 [6],hP 3 0 [7],hR 7 0 [8],hP 15 0 [9],hP 31 0 [10],hR 63 0 [11],hP 0 0 [3],hE 128 0 [13],hP 511 1 [12],hP 1023 1 [14]],1,[(0,[0,1]),(3,[0,1]),(6,[0,1])]⟩⟩))) .nil)) (nS (nO .nil (nO .nil (nO .nil (nL ⟨[],0,⟨[hP 0 0 [2],hR 1 0 [47],hP 0 0 [2],hR 4 0 [49],hP 12 0 [50],hR 28 0 [51],hP 0 0 [1],hE 124 0 [52,53],hP 0 1 [2],hR 256 1 [55],hP 768 1 [56],hR 1792 1 [57],hP 0 1 [1],hE 8188 1 [58,59],hE 16383 2 [48,54,60],hP 32767 3 [61]],3,[(1,[0,1,2]),(3,[0]),(5,[0]),(9,[0,1]),(11,[0,1])]⟩⟩)))) (nL (nO (nL ⟨[],0,⟨[hP 0 0 [0],hE 1 0 [4],hP 3 1 [5],hP 7 1 [6,0],hP 15 1 [6,7],hP 31 1 [6,8],hR 63 1 [6,9],hP 7 1 [6,1],hR 135 1 [6,11],hP 511 1 [6,10,12],hP 1023 1 [6,13],hP 2047 1 [14]],1,[(6,[1]),(8,[1])]⟩⟩) .nil)) .nil))) (nO (nS (nO .nil (nO .nil (nL ⟨[],0,⟨[hP 0 0 [0],hP 0 0 [5],hP 3 0 [16,17],hR 7 0 [18],hP 0 0 [1],hP 0 0 [5],hP 48 0 [20,21],hR 112 0 [22],hP 255 0 [19,23]],0,[(3,[0]),(7,[0])]⟩⟩))) (nL (nO .nil (nO (nO .nil (nL ⟨[],0,⟨[hP 0 0 [6],hR 1 0 [76],hP 0 0 [8],hP 7 0 [77,78],hR 15 0 [79],hP 0 0 [7],hR 32 0 [81],hP 0 0 [8],hP 224 0 [82,83],hR 480 0 [84],hP 1023 0 [80,85]],0,[(1,[0]),(4,[0]),(6,[0]),(9,[0])]⟩⟩)) (nL ⟨[],0,⟨[hP 0 0 [0],hP 0 0 [5],hP 3 0 [19,20],hR 7 0 [21],hP 0 0 [1],hP 0 0 [5],hP 48 0 [23,24],hR 112 0 [25],hP 0 0 [],hP 0 0 [],hE 783 0 [6,22],hE 2047 1 [7,26]],2,[(3,[0]),(7,[0,1])]⟩⟩)))) (nO (nL (nO (nL ⟨[],0,⟨[hP 0 0 [1],hR 1 0 [5],hP 3 0 [6],hP 7 0 [7],hP 15 0 [8,1],hR 31 0 [8,9],hP 15 0 [8,0],hP 79 0 [8,11],hP 207 0 [8,12],hR 463 0 [8,13],hR 15 0 [8,2],hP 1999 0 [8,14,15],hP 4095 0 [8,10,16],hP 8191 0 [8,17],hP 16383 0 [18]],0,[(1,[0]),(5,[0]),(9,[0]),(10,[0])]⟩⟩) .nil)) (nS (nO (nO .nil (nL ⟨[],0,⟨[hP 0 0 [0],hP 0 0 [3],hP 0 0 [0],hP 0 0 [3],hP 0 0 [0],hP 0 0 [3],hP 48 0 [15,16],hP 112 0 [17],hR 240 0 [18],hE 496 0 [19],hP 0 1 [0],hP 0 1 [3],hP 3072 1 [21,22],hP 7168 1 [23],hR 15360 1 [24],hE 32752 1 [25],hP 65523 2 [11,12],hP 131059 2 [27],hE 262131 2 [28,20],hP 524287 3 [13,14],hP 1048575 3 [29],hE 2097151 3 [30,26]],4,[(8,[0]),(14,[0,1])]⟩⟩)) .nil) (nL (nO (nO .nil (nL ⟨[],0,⟨[hR 0 0 [0],hP 1 0 [23],hP 3 0 [24],hR 7 0 [25],hP 15 0 [26],hP 31 0 [27],hR 63 0 [28],hR 0 0 [0],hP 128 0 [30],hP 384 0 [31],hR 896 0 [32],hP 2047 0 [29,33]],0,[(0,[0]),(3,[0]),(6,[0]),(7,[0]),(10,[0])]⟩⟩)) (nO .nil (nL ⟨[],0,⟨[hR 0 0 [0],hP 1 0 [35],hP 3 0 [36],hR 7 0 [37],hR 0 0 [0],hP 16 0 [39],hP 48 0 [40],hR 112 0 [41],hP 0 0 [3],hP 256 0 [43],hP 255 0 [38],hP 1279 0 [45],hE 3327 0 [46],hP 8191 1 [42],hP 16383 1 [47],hE 32767 1 [48,44]],2,[(0,[0]),(3,[0]),(4,[0]),(7,[0])]⟩⟩)))) .nil))) (nS (nO (nS ⟨[],0,⟨[hP 0 0 [1],hR 1 0 [6],hE 3 0 [7],hP 0 1 [1],hR 8 1 [9],hE 31 1 [10],hP 31 2 [1],hE 127 2 [12,8],hP 255 3 [1],hE 511 3 [13,11]],4,[(1,[0]),(4,[0,1])]⟩⟩ (nO .nil (nL ⟨[],0,⟨[hP 0 0 [1],hR 1 0 [47],hP 0 0 [5],hP 0 0 [1],hR 8 0 [50],hP 0 0 [5],hP 56 0 [51,52],hP 120 0 [53],hR 248 0 [54],hE 504 0 [55],hP 1023 1 [48,49],hP 2047 1 [57],hE 4095 1 [58,56]],2,[(1,[0,1]),(4,[0]),(8,[0])]⟩⟩)) .nil) (nO .nil (nL ⟨[],0,⟨[hP 0 0 [4],hP 0 0 [4],hP 0 0 [4],hP 4 0 [26],hP 12 0 [27],hR 28 0 [28],hE 60 0 [29],hP 0 1 [4],hP 128 1 [31],hP 384 1 [32],hR 896 1 [33],hE 2044 1 [34],hP 4093 2 [24],hP 8189 2 [36],hE 16381 2 [37,30],hP 32767 3 [25],hP 65535 3 [38],hE 131071 3 [39,35]],4,[(5,[0]),(10,[0,1])]⟩⟩))) (nO (nO (nL (nO (nL ⟨[],0,⟨[hP 0 0 [0],hP 1 0 [9],hP 3 0 [10],hR 7 0 [11],hP 0 0 [3],hR 16 0 [13],hR 63 0 [12,14],hP 127 0 [15],hP 255 0 [8],hP 255 0 [8],hP 511 0 [16],hP 2047 0 [17]],0,[(3,[0]),(5,[0]),(6,[0])]⟩⟩) .nil)) .nil) (nO (nL (nO (nS ⟨[],0,⟨[hR 0 0 [0],hP 1 0 [3],hP 3 0 [4],hR 7 0 [5],hP 15 0 [6],hP 31 0 [7],hR 63 0 [8],hR 127 0 [9],hR 0 0 [0],hP 256 0 [11],hP 768 0 [12],hR 1792 0 [13],hP 4095 0 [10,14]],0,[(0,[0]),(3,[0]),(6,[0]),(7,[0]),(8,[0]),(11,[0])]⟩⟩ (nL ⟨[],0,⟨[hR 0 0 [0],hP 1 0 [16],hP 3 0 [17],hR 7 0 [18],hR 0 0 [0],hP 16 0 [20],hP 48 0 [21],hR 112 0 [22],hP 240 0 [23],hP 496 0 [24],hR 1008 0 [25],hR 0 0 [0],hP 2048 0 [27],hP 6144 0 [28],hP 14336 0 [29],hR 30720 0 [30],hP 63488 0 [31],hE 131056 0 [26,32],hP 262143 1 [19],hP 524287 1 [34],hE 1048575 1 [35,33]],2,[(0,[0,1]),(3,[0,1]),(4,[0]),(7,[0]),(10,[0]),(11,[0]),(15,[0])]⟩⟩) .nil) .nil)) .nil)) (nS (nL ⟨[],0,⟨[hR 0 0 [1],hP 1 0 [2],hP 3 0 [3],hR 7 0 [4],hP 0 0 [0],hR 16 0 [6],hP 0 0 [0],hR 64 0 [8],hP 255 0 [5,7],hE 511 0 [10,9]],1,[(0,[0]),(3,[0]),(5,[0]),(7,[0])]⟩⟩) (nL (nO (nL ⟨[],0,⟨[hP 0 0 [0],hP 1 0 [4],hP 3 0 [5],hR 7 0 [6],hP 0 0 [1],hR 16 0 [8],hP 63 0 [7,9],hP 127 0 [10]],0,[(3,[0]),(5,[0])]⟩⟩) .nil)) .nil)))) (nS (nO (nO (nL ⟨[],0,⟨[hR 0 0 [3],hP 0 0 [1],hP 0 0 [5],hR 4 0 [29],hP 0 0 [5],hR 16 0 [31],hR 48 0 [32],hP 112 0 [33],hP 252 0 [30,34],hE 511 0 [27,28,35],hP 1023 1 [36],hP 2047 1 [26],hP 2047 1 [26],hP 2047 1 [26],hP 0 1 [],hP 20479 1 [37],hE 57343 1 [8,38],hP 131071 2 [39]],2,[(0,[0]),(3,[0]),(5,[0]),(6,[0])]⟩⟩) .nil) (nO (nL ⟨[],0,⟨[hR 0 0 [3],hP 0 0 [1],hP 0 0 [5],hR 4 0 [43],hP 0 0 [5],hR 16 0 [45],hR 48 0 [46],hP 112 0 [47],hP 252 0 [44,48],hE 511 0 [41,42,49],hP 1023 1 [50],hP 2047 1 [40],hP 2047 1 [40],hP 2047 1 [40],hP 0 1 [],hP 20479 1 [51],hE 57343 1 [11,52],hP 131071 2 [53]],2,[(0,[0]),(3,[0]),(5,[0]),(6,[0])]⟩⟩) (nL ⟨[],0,⟨[hP 0 0 [7],hP 0 0 [13],hP 3 0 [59,60],hP 0 0 [10],hP 0 0 [13],hP 24 0 [62,63],hE 63 0 [61,64],hP 127 1 [65]],1,[]⟩⟩))) (nS (nO (nO (nO .nil (nL ⟨[],0,⟨[hR 0 0 [9],hR 0 0 [12],hP 0 0 [13],hE 1 0 [6,52],hE 11 1 [7,53],hP 31 2 [54]],2,[(0,[0]),(1,[0,1])]⟩⟩)) .nil) .nil) (nO (nS (nO .nil (nO .nil (nL ⟨[],0,⟨[hP 0 0 [2],hR 1 0 [25],hP 0 0 [5],hP 7 0 [26,27],hR 15 0 [28],hR 0 0 [6],hP 0 0 [2],hR 64 0 [31],hR 192 0 [32],hE 511 0 [29,30,33],hP 1023 1 [34]],1,[(1,[0]),(4,[0]),(5,[0]),(7,[0]),(8,[0])]⟩⟩))) (nS (nO (nL ⟨[],0,⟨[hR 0 0 [0],hR 0 0 [0],hP 2 0 [4],hP 6 0 [5],hP 14 0 [6],hR 30 0 [7],hP 0 0 [1],hR 64 0 [9],hP 254 0 [8,10],hP 510 0 [11],hR 1022 0 [12],hE 2047 0 [3,13],hP 4095 1 [14]],1,[(0,[0]),(1,[0]),(5,[0]),(7,[0]),(10,[0])]⟩⟩) .nil) (nL (nO (nO .nil (nO (nO .nil (nL ⟨[],0,⟨[hP 0 0 [],hP 0 0 [7],hR 2 0 [87],hP 6 0 [88],hE 1 0 [4,86],hE 31 1 [5,89]],2,[(2,[0,1])]⟩⟩)) .nil)) .nil)) .nil) (nL (nO .nil (nO (nO .nil (nL ⟨[],0,⟨[hP 0 0 [5],hR 1 0 [44],hP 0 0 [6],hR 4 0 [46],hP 15 0 [45,47],hP 31 0 [48],hR 63 0 [49],hP 0 0 [6],hR 128 0 [51],hP 511 0 [50,52]],0,[(1,[0]),(3,[0]),(6,[0]),(8,[0])]⟩⟩)) .nil)))) (nS (nO (nO (nO (nL ⟨[],0,⟨[hP 0 0 [5],hR 1 0 [27],hP 0 0 [4],hE 4 0 [29],hP 12 1 [30],hE 31 1 [28,31],hP 63 2 [5],hE 127 2 [33,32]],3,[(1,[0,1])]⟩⟩) .nil) .nil) (nO .nil (nO .nil (nL ⟨[],0,⟨[hP 0 0 [],hP 0 0 [4],hP 2 0 [58],hP 6 0 [59],hR 14 0 [60],hE 1 0 [2,57],hE 63 1 [3,61]],2,[(4,[0,1])]⟩⟩)))) (nS (nO .nil (nL ⟨[],0,⟨[hP 0 0 [0],hP 1 0 [11],hP 3 0 [12],hR 7 0 [13],hR 0 0 [1],hP 31 0 [14,15],hP 63 0 [16]],0,[(3,[0]),(4,[0])]⟩⟩)) (nL (nO .nil (nL ⟨[],0,⟨[hR 0 0 [2],hR 0 0 [2],hP 2 0 [9],hP 6 0 [10],hP 14 0 [11],hR 30 0 [12],hR 0 0 [3],hP 64 0 [14],hE 254 0 [13,15],hP 511 1 [8],hP 1023 1 [17],hP 2047 1 [18],hE 4095 1 [19,16]],2,[(0,[0,1]),(1,[0]),(5,[0]),(6,[0])]⟩⟩))) .nil) .nil)) (nO (nS (nO .nil (nO (nO (nO (nL ⟨[],0,⟨[hR 0 0 [16],hR 0 0 [14],hP 0 0 [15],hE 1 0 [6,116],hE 11 1 [7,117],hP 31 2 [118],hP 63 2 []],2,[(0,[0]),(1,[0,1])]⟩⟩) .nil) (nL ⟨[],0,⟨[hR 0 0 [13],hP 0 0 [4],hR 2 0 [94],hE 6 0 [95],hP 15 1 [93,96],hP 0 1 [],hE 63 1 [16,97]],2,[(0,[0,1]),(2,[0])]⟩⟩)) .nil)) (nS (nO (nL ⟨[],0,⟨[hP 0 0 [0],hP 1 0 [5],hP 3 0 [6],hR 7 0 [7],hP 15 0 [8],hP 31 0 [9],hP 63 0 [10,0],hP 127 0 [10,11],hP 255 0 [10,12],hR 511 0 [10,13],hP 63 0 [10,1],hR 1087 0 [10,15],hR 4095 0 [10,14,16],hP 8191 0 [10,17],hP 16383 0 [10,18],hP 32767 0 [19]],0,[(3,[0]),(9,[0]),(11,[0]),(12,[0])]⟩⟩) (nL ⟨[],0,⟨[hP 0 0 [0],hP 1 0 [20],hP 3 0 [21],hR 7 0 [22],hP 0 0 [1],hR 16 0 [24],hE 63 0 [23,25]],1,[(3,[0]),(5,[0])]⟩⟩)) .nil (nL (nO .nil (nS ⟨[],0,⟨[hP 0 0 [0],hP 0 0 [3],hR 2 0 [10],hP 0 0 [3],hR 8 0 [12],hE 24 0 [13],hE 63 1 [9,11,14],hP 127 2 [15]],2,[(2,[0,1]),(4,[0])]⟩⟩ (nO (nL ⟨[],0,⟨[hP 0 0 [0],hP 1 0 [27],hP 3 0 [28],hR 7 0 [29],hP 0 0 [3],hR 16 0 [31],hE 63 0 [30,32]],1,[(3,[0]),(5,[0])]⟩⟩) .nil) .nil)))) .nil) (nS (nL ⟨[],0,⟨[hP 0 0 [0],hR 1 0 [2],hP 3 0 [3],hR 7 0 [4],hR 0 0 [1],hP 16 0 [6],hP 48 0 [7],hR 112 0 [8],hE 255 0 [5,9],hP 511 1 [10]],1,[(1,[0]),(3,[0]),(4,[0]),(7,[0])]⟩⟩) (nL (nO (nL ⟨[],0,⟨[hP 0 0 [0],hP 0 0 [0],hP 2 0 [6],hP 6 0 [7],hR 14 0 [8],hP 0 0 [1],hR 32 0 [10],hP 96 0 [11],hE 254 0 [9,12],hP 511 1 [5],hP 1023 1 [14],hE 2047 1 [15,13]],2,[(4,[0]),(6,[0])]⟩⟩) (nL ⟨[],0,⟨[hP 0 0 [0],hP 1 0 [16],hP 3 0 [17],hR 7 0 [18],hR 15 0 [19],hR 0 0 [2],hP 63 0 [20,21],hP 127 0 [22]],0,[(3,[0]),(4,[0]),(5,[0])]⟩⟩))) .nil))) (nS (nO .nil (nO .nil (nL ⟨[],0,⟨[hR 0 0 [1],hP 0 0 [2],hP 2 0 [32],hE 7 0 [31,33],hP 15 1 [34],hP 31 1 [30],hP 31 1 [30],hP 0 1 [],hE 191 1 [8,35],hP 511 2 [36]],2,[(0,[0])]⟩⟩))) (nO (nO .nil (nS (nO (nO (nO (nO (nL ⟨[],0,⟨[hP 0 0 [9],hP 1 0 [61],hP 3 0 [62],hP 7 0 [63,4],hR 15 0 [63,64],hP 31 0 [63,65],hP 63 0 [63,66],hP 127 0 [67],hP 255 0 [68,4],hR 511 0 [68,69],hP 255 0 [68,0],hP 1279 0 [68,71],hP 3327 0 [68,72],hR 7423 0 [68,73],hP 16383 0 [68,70,74],hP 32767 0 [68,75],hP 65535 0 [76],hP 131071 0 [77,4],hR 262143 0 [77,78],hP 524287 0 [77,79],hP 1048575 0 [77,80],hP 2097151 0 [77,81],hE 4194303 0 [77,82],hP 8388607 1 [77,83],hP 16777215 1 [84]],1,[(4,[0]),(9,[0]),(13,[0]),(18,[0])]⟩⟩) .nil) .nil) .nil) .nil) (nL (nO (nL ⟨[],0,⟨[hR 0 0 [0],hP 1 0 [3],hP 3 0 [4],hR 7 0 [5],hP 15 0 [6],hP 31 0 [7],hR 63 0 [8],hR 0 0 [0],hP 128 0 [10],hP 384 0 [11],hR 896 0 [12],hP 2047 0 [9,13]],0,[(0,[0]),(3,[0]),(6,[0]),(7,[0]),(10,[0])]⟩⟩) .nil)) .nil)) (nO .nil (nO (nL (nO (nO (nL ⟨[],0,⟨[hR 0 0 [0],hP 1 0 [12],hP 3 0 [13],hR 7 0 [14],hP 15 0 [15],hP 31 0 [16],hR 63 0 [17],hR 0 0 [0],hP 128 0 [19],hP 384 0 [20],hR 896 0 [21],hP 2047 0 [18,22],hP 4095 0 [23]],0,[(0,[0]),(3,[0]),(6,[0]),(7,[0]),(10,[0])]⟩⟩) .nil) .nil)) .nil))) (nS (nO (nL ⟨[],0,⟨[hP 0 0 [4],hR 1 0 [7],hP 0 0 [2],hP 7 0 [8,9],hP 15 0 [10],hR 31 0 [11],hP 63 0 [12],hP 127 0 [13],hP 255 0 [14,4],hR 511 0 [14,15],hP 255 0 [14,2],hP 2047 0 [14,16,17],hP 4095 0 [14,18],hR 8191 0 [14,19],hP 255 0 [14,3],hR 16639 0 [14,21],hP 255 0 [14,2],hP 114943 0 [14,22,23],hP 246015 0 [14,24],hR 508159 0 [14,25],hR 1032447 0 [14,26],hP 2097151 0 [14,20,27],hP 4194303 0 [14,28],hP 8388607 0 [29]],0,[(1,[0]),(5,[0]),(9,[0]),(13,[0]),(15,[0]),(19,[0]),(20,[0])]⟩⟩) .nil) (nS (nO .nil (nO .nil (nL ⟨[],0,⟨[hP 0 0 [9],hP 1 0 [47],hP 3 0 [48,3],hR 7 0 [48,49],hP 3 0 [48,5],hR 19 0 [48,51],hP 63 0 [48,50,52],hP 127 0 [48,53],hR 255 0 [48,54],hR 3 0 [48,5],hP 3 0 [48,7],hE 2047 0 [48,55,56,57],hP 4095 1 [48,58],hP 8191 1 [59],hP 16383 1 [60,5],hR 32767 1 [60,61],hP 65535 1 [60,62],hP 131071 1 [60,63],hP 262143 1 [64,8],hP 524287 1 [60,64,65],hP 1048575 1 [60,66],hP 2097151 1 [67]],1,[(3,[0]),(5,[0]),(8,[0]),(9,[0]),(15,[1])]⟩⟩))) (nO (nL (nO (nO .nil (nL ⟨[],0,⟨[hP 0 0 [5],hR 1 0 [13],hE 3 0 [14],hP 0 1 [5],hR 8 1 [16],hE 31 1 [17],hP 63 2 [15,18],hP 127 2 [19]],2,[(1,[0]),(4,[0,1])]⟩⟩)) .nil)) .nil) (nO (nL (nO (nS ⟨[],0,⟨[hR 0 0 [0],hP 1 0 [4],hP 3 0 [5],hR 7 0 [6],hR 0 0 [0],hP 16 0 [8],hP 48 0 [9],hR 112 0 [10],hP 255 0 [7,11],hP 511 0 [12]],0,[(0,[0]),(3,[0]),(4,[0]),(7,[0])]⟩⟩ .nil (nL ⟨[],0,⟨[hR 0 0 [0],hP 1 0 [25],hP 3 0 [26],hR 7 0 [27],hR 0 0 [0],hP 16 0 [29],hP 48 0 [30],hR 112 0 [31],hP 240 0 [32],hP 496 0 [33],hR 1008 0 [34],hP 0 0 [0],hE 4080 0 [35,36],hR 0 1 [0],hP 8192 1 [38],hP 24576 1 [39],hR 57344 1 [40],hP 122880 1 [41],hE 262128 1 [37,42],hP 524287 2 [28],hP 1048575 2 [44],hE 2097151 2 [45,43]],3,[(0,[0,1,2]),(3,[0,1,2]),(4,[0]),(7,[0]),(10,[0]),(13,[0,1]),(16,[0,1])]⟩⟩)) (nL ⟨[],0,⟨[hP 0 0 [3],hP 1 0 [13],hP 3 0 [14],hR 7 0 [15],hR 0 0 [0],hP 16 0 [17],hP 48 0 [18],hR 112 0 [19],hP 255 0 [16,20]],0,[(3,[0]),(4,[0]),(7,[0])]⟩⟩))) .nil)) (nS (nO (nO (nO (nL ⟨[],0,⟨[hP 0 0 [12],hE 1 0 [89],hP 0 1 [7],hR 4 1 [91],hR 15 1 [90,92],hP 31 1 [93],hP 63 1 [88],hP 63 1 [88],hP 127 1 [94],hP 511 1 [95]],1,[(3,[0,1]),(4,[1])]⟩⟩) (nO (nL ⟨[],0,⟨[hP 0 0 [11],hR 0 0 [17],hP 1 0 [136],hE 7 0 [9,137],hP 15 1 []],1,[(1,[0])]⟩⟩) .nil)) (nS ⟨[],0,⟨[hP 0 0 [12],hE 1 0 [79],hP 0 1 [7],hR 4 1 [81],hR 15 1 [80,82],hP 31 1 [83],hP 63 1 [78],hP 63 1 [78],hP 127 1 [84],hP 511 1 [85]],1,[(3,[0,1]),(4,[1])]⟩⟩ (nL ⟨[],0,⟨[hP 0 0 [12],hE 1 0 [98],hP 0 1 [7],hR 4 1 [100],hR 15 1 [99,101],hP 31 1 [102]],1,[(3,[0,1]),(4,[1])]⟩⟩) .nil)) (nS ⟨[],0,⟨[hR 0 0 [4],hP 0 0 [1],hE 3 0 [20,21],hP 7 1 [22],hP 15 1 [23],hP 31 1 [24,2],hP 63 1 [24,25],hP 127 1 [24,26],hP 255 1 [27],hP 511 1 [28,2],hP 511 1 [28,4],hR 1535 1 [28,30],hR 3583 1 [28,31],hP 8191 1 [28,29,32],hP 16383 1 [28,33],hP 32767 1 [34],hP 65535 1 [35,7],hR 131071 1 [35,36],hP 262143 1 [35,37],hP 524287 1 [35,38],hP 1048575 1 [39],hP 2097151 1 [40,7],hR 4194303 1 [40,41],hP 2097151 1 [40,11],hR 10485759 1 [40,43],hP 33554431 1 [40,42,44],hP 67108863 1 [40,45],hP 134217727 1 [46],hP 268435455 1 [47,7],hR 536870911 1 [47,48],hE 1073741823 1 [47,49],hP 268435455 2 [47,4],hR 2415919103 2 [47,51],hP 268435455 2 [47,7],hR 8858370047 2 [47,53],hP 32480690175 2 [47,52,54],hP 66840428543 2 [47,55],hR 135559905279 2 [47,56],hP 274877906943 2 [47,50,57],hP 549755813887 2 [47,58]],2,[(0,[0]),(11,[1]),(12,[1]),(17,[1]),(22,[1]),(24,[1]),(29,[1]),(32,[1,2]),(34,[1,2]),(37,[1,2])]⟩⟩ (nS ⟨[],0,⟨[hP 0 0 [2],hP 0 0 [11],hP 0 0 [7],hR 4 0 [64],hP 14 0 [63,65],hP 0 0 [4],hR 32 0 [67],hP 0 0 [7],hR 128 0 [69],hP 480 0 [68,70],hP 992 0 [71],hR 2016 0 [72],hP 0 0 [11],hR 0 0 [7],hP 16383 0 [62,66,73,74,75],hP 32767 0 [76],hP 65535 0 [77]],0,[(3,[0]),(6,[0]),(8,[0]),(11,[0]),(13,[0])]⟩⟩ (nO (nL ⟨[],0,⟨[hP 0 0 [1],hE 1 0 [123],hP 0 1 [2],hP 0 1 [7],hR 8 1 [126],hP 0 1 [7],hR 32 1 [128],hP 96 1 [129],hP 252 1 [125,127,130],hP 3 1 [124],hE 1023 1 [9,131],hP 2047 2 []],2,[(4,[0,1]),(6,[0,1])]⟩⟩) .nil) .nil) (nO (nO (nL ⟨[],0,⟨[hP 0 0 [11],hR 0 0 [17],hP 1 0 [134],hE 7 0 [9,135],hP 15 1 []],1,[(1,[0])]⟩⟩) .nil) .nil))) (nO (nL (nO (nO .nil (nL ⟨[],0,⟨[hR 0 0 [0],hP 1 0 [15],hP 3 0 [16],hR 7 0 [17],hR 0 0 [0],hP 16 0 [19],hP 48 0 [20],hR 112 0 [21],hP 240 0 [22],hP 496 0 [23],hR 1008 0 [24],hR 0 0 [0],hP 2048 0 [26],hP 6144 0 [27],hR 14336 0 [28],hP 30720 0 [29],hE 65520 0 [25,30],hP 131071 1 [18],hP 262143 1 [32],hE 524287 1 [33,31]],2,[(0,[0,1]),(3,[0,1]),(4,[0]),(7,[0]),(10,[0]),(11,[0]),(14,[0])]⟩⟩)) .nil)) .nil) .nil))))) (nO (nS (nO (nO (nO .nil (nO (nL ⟨[],0,⟨[hP 0 0 [],hP 0 0 [9],hP 0 0 [16],hP 6 0 [120,121],hE 15 0 [119,122],hP 0 1 [5],hR 32 1 [124],hP 0 1 [5],hR 128 1 [126],hR 384 1 [127],hP 896 1 [128],hP 2016 1 [125,129],hE 4095 1 [123,130],hP 8191 2 [131]],2,[(6,[0,1]),(8,[0,1]),(9,[0,1])]⟩⟩) .nil)) (nO (nO (nL ⟨[],0,⟨[hP 0 0 [18],hP 0 0 [16],hP 3 0 [108,109],hP 7 0 [110],hR 15 0 [111,3],hP 15 0 [111,9],hP 15 0 [111,16],hP 111 0 [111,113,114],hE 255 0 [111,112,115],hP 511 1 [111,116],hP 1023 1 [111,117]],1,[(4,[0])]⟩⟩) .nil) (nO (nL ⟨[],0,⟨[hR 0 0 [3],hP 0 0 [19],hP 0 0 [21],hP 6 0 [140,141],hE 15 0 [139,142],hP 31 1 [143],hP 63 1 [138],hP 63 1 [138],hP 0 1 [],hE 383 1 [22,144],hP 1023 2 [145]],2,[(0,[0])]⟩⟩) .nil))) (nO (nO (nS ⟨[],0,⟨[hR 0 0 [3],hR 0 0 [7],hP 0 0 [1],hP 0 0 [10],hP 12 0 [55,56],hR 28 0 [57],hP 0 0 [3],hR 64 0 [59],hR 192 0 [60],hE 508 0 [58,61],hE 1023 1 [53,54,62],hP 2047 2 [63],hP 4095 2 [52],hP 4095 2 [52],hP 4095 2 [52],hP 0 2 [],hP 0 2 [],hE 106495 2 [11,64],hE 245759 3 [12,65],hP 524287 4 [66]],4,[(0,[0,1]),(1,[0,1]),(5,[0]),(7,[0]),(8,[0])]⟩⟩ (nL ⟨[],0,⟨[hR 0 0 [3],hP 0 0 [9],hP 0 0 [16],hP 6 0 [102,103],hE 15 0 [101,104],hP 31 1 [105],hP 63 1 [100],hP 63 1 [100],hP 0 1 [],hE 383 1 [17,106],hP 1023 2 [107]],2,[(0,[0])]⟩⟩) .nil) .nil) (nO .nil (nO (nL ⟨[],0,⟨[hP 0 0 [21],hP 0 0 [16],hP 3 0 [146,147],hP 7 0 [148],hP 15 0 [149,23],hP 15 0 [149,21],hP 63 0 [149,150,151],hP 127 0 [149,152],hP 255 0 [153],hR 511 0 [154,20],hR 511 0 [154,22],hE 2047 0 [154,155,156],hP 4095 1 [154,157],hP 8191 1 [158],hR 16383 1 [159,3],hR 16383 1 [159,20],hE 65535 1 [159,160,161],hP 131071 2 [159,162],hP 262143 2 [163],hR 524287 2 [164,3],hP 524287 2 [164,19],hP 524287 2 [164,21],hP 3670015 2 [164,166,167],hE 8388607 2 [164,165,168],hP 16777215 3 [164,169],hP 33554431 3 [170],hE 67108863 3 [171],hP 134217727 4 [171,172],hP 268435455 4 [173]],4,[(9,[0]),(10,[0]),(14,[1]),(15,[1]),(19,[2])]⟩⟩) .nil)))) (nO (nS (nO .nil (nO (nO .nil (nL ⟨[],0,⟨[hP 0 0 [5],hR 0 0 [7],hE 3 0 [62,63],hP 0 1 [7],hR 8 1 [65],hR 31 1 [64,66],hP 63 1 [67],hP 127 1 [61],hP 127 1 [61],hP 255 1 [68],hP 1023 1 [69]],1,[(1,[0]),(4,[0,1]),(5,[1])]⟩⟩)) (nO (nL ⟨[],0,⟨[hP 0 0 [7],hR 1 0 [50],hE 3 0 [51],hP 0 1 [2],hR 8 1 [53],hP 0 1 [7],hR 32 1 [55],hP 120 1 [54,56],hP 248 1 [57],hR 504 1 [58],hP 1023 1 [52,59]],1,[(1,[0]),(4,[0,1]),(6,[0,1]),(9,[0,1])]⟩⟩) (nL ⟨[],0,⟨[hP 0 0 [5],hR 0 0 [7],hE 3 0 [72,73],hP 0 1 [7],hR 8 1 [75],hR 31 1 [74,76],hP 63 1 [77]],1,[(1,[0]),(4,[0,1]),(5,[1])]⟩⟩)))) (nS (nO (nS ⟨[],0,⟨[hR 0 0 [4],hP 0 0 [1],hP 2 0 [17],hP 6 0 [18],hR 14 0 [19],hP 0 0 [2],hR 0 0 [7],hE 127 0 [16,20,21,22],hP 255 1 [23],hP 511 1 [15],hP 511 1 [15],hP 511 1 [15],hP 0 1 [],hP 5119 1 [24],hE 14335 1 [11,25],hP 32767 2 [26]],2,[(0,[0]),(4,[0]),(6,[0])]⟩⟩ (nO .nil (nS ⟨[],0,⟨[hP 0 0 [4],hR 1 0 [72],hP 0 0 [2],hP 7 0 [73,74],hP 15 0 [75],hR 31 0 [76],hP 0 0 [13],hP 64 0 [78],hP 192 0 [79],hR 448 0 [80],hP 1023 0 [77,81],hR 2047 0 [82],hP 0 0 [],hE 8191 0 [14,83]],1,[(1,[0]),(5,[0]),(9,[0]),(11,[0])]⟩⟩ (nL ⟨[],0,⟨[hP 0 0 [13],hP 0 0 [13],hP 0 0 [13],hP 0 0 [11],hR 8 0 [135],hP 0 0 [11],hR 32 0 [137],hP 1 0 [132],hP 129 0 [139],hE 385 0 [140],hP 923 1 [133],hP 1947 1 [141],hE 3995 1 [142,136],hP 8191 2 [134],hP 16383 2 [143],hE 32767 2 [144,138]],3,[(4,[0,1]),(6,[0,1,2])]⟩⟩) .nil)) (nO (nO (nL ⟨[],0,⟨[hP 0 0 [13],hP 1 0 [115],hP 3 0 [116],hR 7 0 [117],hP 0 0 [14],hR 16 0 [119],hP 0 0 [11],hR 64 0 [121],hP 255 0 [118,120],hE 511 0 [123,122]],1,[(3,[0]),(5,[0]),(7,[0])]⟩⟩) .nil) (nO (nL ⟨[],0,⟨[hP 0 0 [13],hP 0 0 [13],hP 0 0 [11],hR 4 0 [150],hP 1 0 [148],hP 17 0 [152],hE 49 0 [153],hP 127 1 [149],hP 255 1 [154],hE 511 1 [155,151]],2,[(3,[0,1])]⟩⟩) .nil))) .nil) (nS (nO .nil (nO .nil (nL ⟨[],0,⟨[hP 0 0 [0],hP 0 0 [5],hP 3 0 [17,18],hR 7 0 [19],hP 0 0 [1],hP 0 0 [5],hP 48 0 [21,22],hR 112 0 [23],hP 255 0 [20,24]],0,[(3,[0]),(7,[0])]⟩⟩))) .nil (nL (nO (nL ⟨[],0,⟨[hR 0 0 [0],hP 0 0 [2],hE 3 0 [8,9]],1,[(0,[0])]⟩⟩) (nL ⟨[],0,⟨[hP 0 0 [2],hR 0 0 [0],hP 2 0 [12],hP 6 0 [13],hP 14 0 [14],hR 30 0 [15],hE 63 0 [11,16],hP 127 1 [17],hP 255 1 [18],hP 127 1 [1],hE 639 1 [20],hP 2047 2 [1],hE 4095 2 [21,19]],3,[(1,[0]),(5,[0])]⟩⟩)))) (nO (nL (nO (nO .nil (nL ⟨[],0,⟨[hP 0 0 [0],hP 0 0 [1],hP 3 0 [20,21],hP 0 0 [0],hP 0 0 [2],hP 24 0 [23,24],hE 63 0 [22,25],hP 127 1 [26]],1,[]⟩⟩)) .nil)) .nil)) (nO .nil (nO (nL (nO .nil (nO (nL ⟨[],0,⟨[hR 0 0 [0],hP 1 0 [22],hP 3 0 [23],hR 7 0 [24],hR 0 0 [0],hP 16 0 [26],hP 48 0 [27],hR 112 0 [28],hP 240 0 [29],hP 496 0 [30],hR 1008 0 [31],hP 2032 0 [32],hP 4095 0 [25],hP 8191 0 [34],hE 16383 0 [35,33]],1,[(0,[0]),(3,[0]),(4,[0]),(7,[0]),(10,[0])]⟩⟩) .nil))) .nil))) (nO (nS (nO .nil (nO (nL ⟨[],0,⟨[hR 0 0 [6],hP 0 0 [1],hE 2 0 [19],hP 7 1 [18,20],hP 0 1 [],hE 31 1 [8,21]],2,[(0,[0,1])]⟩⟩) .nil)) (nL (nO (nL ⟨[],0,⟨[hR 0 0 [1],hE 1 0 [5],hP 0 1 [2],hR 4 1 [7],hE 15 1 [6,8],hP 31 2 [9]],2,[(0,[0]),(3,[0,1])]⟩⟩) .nil)) .nil) (nS (nL ⟨[],0,⟨[hR 0 0 [1],hP 1 0 [2],hP 3 0 [3],hR 7 0 [4],hP 0 0 [0],hR 16 0 [6],hP 0 0 [0],hR 64 0 [8],hP 192 0 [9],hR 448 0 [10],hR 0 0 [1],hP 1024 0 [12],hP 3072 0 [13],hR 7168 0 [14],hE 16320 0 [11,15],hP 32767 1 [5,7],hE 65535 1 [17,16]],2,[(0,[0,1]),(3,[0,1]),(5,[0,1]),(7,[0]),(9,[0]),(10,[0]),(13,[0])]⟩⟩) (nO (nL (nO (nL ⟨[],0,⟨[hP 0 0 [0],hP 1 0 [3],hP 3 0 [4],hR 7 0 [5],hP 15 0 [6],hP 31 0 [7],hR 63 0 [8],hP 0 0 [0],hP 128 0 [10],hP 384 0 [11],hR 896 0 [12],hP 2047 0 [9,13]],0,[(3,[0]),(6,[0]),(10,[0])]⟩⟩) .nil)) (nL (nO .nil (nO (nL ⟨[],0,⟨[hP 0 0 [6],hR 1 0 [13],hP 3 0 [14],hP 7 0 [15],hP 15 0 [16,0],hP 31 0 [16,17],hP 63 0 [16,18],hR 127 0 [16,19],hP 15 0 [16,6],hR 271 0 [16,21],hR 1023 0 [16,20,22],hP 2047 0 [16,23],hP 4095 0 [16,24],hP 8191 0 [25],hP 16383 0 [26,0],hP 16383 0 [26,6],hR 49151 0 [26,28],hE 131071 0 [26,27,29],hP 262143 1 [26,30],hP 524287 1 [26,31]],1,[(1,[0]),(7,[0]),(9,[0]),(10,[0]),(16,[0])]⟩⟩) .nil)))) .nil))) (nS (nO .nil (nO (nO .nil (nL ⟨[],0,⟨[hP 0 0 [6],hR 1 0 [88],hP 0 0 [8],hP 7 0 [89,90],hR 15 0 [91],hP 0 0 [7],hR 32 0 [93],hP 0 0 [8],hP 224 0 [94,95],hR 480 0 [96],hP 1023 0 [92,97]],0,[(1,[0]),(4,[0]),(6,[0]),(9,[0])]⟩⟩)) (nL ⟨[],0,⟨[hP 0 0 [2],hR 1 0 [30],hP 0 0 [5],hP 7 0 [31,32],hR 15 0 [33],hP 0 0 [3],hR 32 0 [35],hP 0 0 [5],hP 224 0 [36,37],hR 480 0 [38],hP 0 0 [],hP 0 0 [],hE 3103 0 [6,34],hE 8191 1 [7,39]],2,[(1,[0]),(4,[0]),(6,[0,1]),(9,[0,1])]⟩⟩))) (nO .nil (nO (nO (nL (nO (nL ⟨[],0,⟨[hP 0 0 [0],hP 1 0 [3],hP 3 0 [4],hR 7 0 [5],hP 15 0 [6],hP 31 0 [7],hR 63 0 [8],hP 0 0 [0],hP 128 0 [10],hP 384 0 [11],hR 896 0 [12],hP 2047 0 [9,13],hP 4095 0 [14],hP 8191 0 [15,0],hP 16383 0 [15,16],hP 32767 0 [15,17],hR 65535 0 [15,18],hP 131071 0 [15,19],hP 262143 0 [15,20],hR 524287 0 [15,21],hP 8191 0 [15,0],hP 1056767 0 [15,23],hP 3153919 0 [15,24],hR 7348223 0 [15,25],hE 16777215 0 [15,22,26],hP 33554431 1 [15,27],hP 67108863 1 [28]],1,[(3,[0]),(6,[0]),(10,[0]),(16,[0]),(19,[0]),(23,[0])]⟩⟩) .nil)) .nil) (nO (nL (nO (nL ⟨[],0,⟨[hR 0 0 [0],hP 1 0 [3],hP 3 0 [4],hP 7 0 [5],hR 15 0 [6],hR 0 0 [0],hP 32 0 [8],hP 96 0 [9],hR 224 0 [10],hP 480 0 [11],hP 992 0 [12],hR 2016 0 [13],hR 0 0 [0],hP 4096 0 [15],hP 12288 0 [16],hP 28672 0 [17],hR 61440 0 [18],hP 131040 0 [14,19],hE 262112 0 [20],hP 524287 1 [7],hP 1048575 1 [21]],1,[(0,[0,1]),(4,[0,1]),(5,[0]),(8,[0]),(11,[0]),(12,[0]),(16,[0])]⟩⟩) .nil)) .nil))) (nO (nO .nil (nO (nL (nO .nil (nO (nL ⟨[],0,⟨[hR 0 0 [0],hP 1 0 [22],hP 3 0 [23],hR 7 0 [24],hR 0 0 [0],hP 16 0 [26],hP 48 0 [27],hR 112 0 [28],hP 240 0 [29],hP 496 0 [30],hR 1008 0 [31],hP 2032 0 [32],hP 4095 0 [25],hP 8191 0 [34],hE 16383 0 [35,33]],1,[(0,[0]),(3,[0]),(4,[0]),(7,[0]),(10,[0])]⟩⟩) .nil))) .nil)) (nS (nS ⟨[],0,⟨[hR 0 0 [0],hP 1 0 [2],hP 3 0 [3],hR 7 0 [4],hP 0 0 [1],hR 16 0 [6],hP 63 0 [5,7],hR 127 0 [8],hP 255 0 [9]],0,[(0,[0]),(3,[0]),(5,[0]),(7,[0])]⟩⟩ .nil (nL ⟨[],0,⟨[hR 0 0 [0],hP 1 0 [16],hP 3 0 [17],hR 7 0 [18],hP 0 0 [1],hR 16 0 [20],hP 63 0 [19,21],hR 127 0 [22],hP 255 0 [23],hP 511 0 [19,21],hE 1023 0 [25,24]],1,[(0,[0]),(3,[0]),(5,[0]),(7,[0])]⟩⟩)) (nO (nL (nO (nO (nL ⟨[],0,⟨[hR 0 0 [0],hP 1 0 [5],hP 3 0 [6],hP 7 0 [7],hR 15 0 [8],hR 0 0 [0],hP 32 0 [10],hP 96 0 [11],hP 224 0 [12],hR 480 0 [13],hP 1023 0 [9,14],hE 2047 0 [15],hP 4095 1 [],hP 8191 1 [16]],1,[(0,[0]),(4,[0]),(5,[0]),(9,[0])]⟩⟩) .nil) .nil)) (nL (nO (nO .nil (nL ⟨[],0,⟨[hP 0 0 [6],hR 0 0 [5],hR 0 0 [0],hE 4 0 [21],hP 14 1 [20,22],hP 31 1 [19,23],hE 63 1 [5,24]],2,[(1,[0,1]),(2,[0])]⟩⟩)) .nil))) (nO (nL (nO (nL ⟨[],0,⟨[hP 0 0 [0],hP 0 0 [1],hP 0 0 [2],hP 6 0 [11,12],hP 1 0 [10],hP 31 0 [14,13],hR 63 0 [15],hP 127 0 [16]],0,[(6,[0])]⟩⟩) (nO (nO (nL ⟨[],0,⟨[hP 0 0 [8],hP 0 0 [1],hR 2 0 [39],hP 7 0 [38,40],hP 15 0 [41],hP 31 0 [42,0],hP 31 0 [42,1],hP 31 0 [42,8],hP 223 0 [42,44,45],hP 63 0 [42,43],hP 1023 0 [42,47,46],hR 2047 0 [42,48],hP 4095 0 [42,49],hP 8191 0 [42,50],hP 16383 0 [51,0],hP 16383 0 [51,1],hP 16383 0 [51,8],hP 114687 0 [51,53,54],hP 32767 0 [51,52],hP 524287 0 [51,56,55],hR 1048575 0 [51,57],hP 2097151 0 [51,58],hP 4194303 0 [51,59],hP 8388607 0 [60,7],hP 16777215 0 [60,61],hP 33554431 0 [51,60,62],hP 67108863 0 [42,51,63],hP 134217727 0 [42,64]],0,[(2,[0]),(11,[0]),(20,[0])]⟩⟩) .nil) .nil))) .nil))))) (nS (nO .nil (nO (nO (nL ⟨[],0,⟨[hP 0 0 [5],hR 1 0 [24],hP 0 0 [7],hR 4 0 [26],hR 12 0 [27],hP 28 0 [28,28],hP 60 0 [29],hP 124 0 [30],hE 255 0 [25,31],hP 511 1 [5],hE 1023 1 [33,32]],2,[(1,[0]),(3,[0]),(4,[0])]⟩⟩) .nil) .nil)) (nS (nO .nil (nO .nil (nL ⟨[],0,⟨[hR 0 0 [2],hP 0 0 [2],hR 2 0 [30],hP 0 0 [5],hP 14 0 [31,32],hR 30 0 [33],hR 0 0 [6],hE 127 0 [29,34,35],hP 255 1 [36]],1,[(0,[0]),(2,[0]),(5,[0]),(6,[0])]⟩⟩))) (nS (nO (nO (nO (nO (nL ⟨[],0,⟨[hP 0 0 [11],hR 0 0 [9],hP 1 0 [75],hE 7 0 [7,76],hP 15 1 []],1,[(1,[0])]⟩⟩) .nil) (nL ⟨[],0,⟨[hP 0 0 [11],hR 0 0 [9],hP 0 0 [17],hP 1 0 [61],hE 11 0 [7,62],hP 31 1 [63]],1,[(1,[0])]⟩⟩)) (nO (nL ⟨[],0,⟨[hR 0 0 [3],hR 0 0 [9],hP 0 0 [2],hP 0 0 [13],hP 12 0 [44,45],hR 28 0 [46],hP 0 0 [12],hP 124 0 [47,48],hP 0 0 [12],hP 508 0 [49,50],hP 0 0 [12],hP 2044 0 [51,52],hE 4095 0 [42,43,53],hP 8191 1 [54],hP 16383 1 [41],hP 16383 1 [41],hP 16383 1 [41],hP 16383 1 [41],hP 0 1 [],hP 0 1 [],hE 819199 1 [14,55],hE 1900543 2 [15,56],hP 4063231 3 [57],hP 8388607 3 [58]],3,[(0,[0]),(1,[0]),(5,[0])]⟩⟩) .nil)) .nil) (nO (nO .nil (nL (nO .nil (nO (nL ⟨[],9,⟨[hP 0 0 [1],hP 1 0 [23],hP 3 0 [24],hR 7 0 [25],hP 0 0 [0],hE 16 0 [27],hR 15 1 [26],hP 0 1 [],hE 255 1 [26,30]],2,[(3,[0,1]),(6,[0,1])]⟩⟩) .nil)))) (nL (nL ⟨[],0,⟨[hP 0 0 [1],hR 1 0 [4],hP 0 0 [0],hP 0 0 [1],hR 8 0 [7],hP 0 0 [0],hP 56 0 [8,9],hR 120 0 [10],hR 0 0 [2],hP 504 0 [11,12],hP 1023 0 [5,6],hE 2047 0 [14,13]],1,[(1,[0]),(4,[0]),(7,[0]),(8,[0])]⟩⟩))) (nS (nO (nO (nL ⟨[],0,⟨[hP 0 0 [],hR 0 0 [4],hE 1 0 [2,17],hE 7 1 [3,18]],2,[(1,[0,1])]⟩⟩) (nO .nil (nO (nL ⟨[],0,⟨[hP 0 0 [5],hR 1 0 [78],hP 0 0 [11],hP 4 0 [80],hP 12 0 [81],hR 28 0 [82],hP 60 0 [83],hE 127 0 [79,84],hP 255 1 [5],hE 511 1 [86,85]],2,[(1,[0]),(5,[0])]⟩⟩) .nil))) .nil) (nL (nO (nL ⟨[],0,⟨[hP 0 0 [1],hR 1 0 [6],hP 0 0 [0],hP 4 0 [8],hP 12 0 [9],hR 28 0 [10],hR 0 0 [2],hP 124 0 [11,12],hP 255 0 [7,13],hP 511 0 [14]],0,[(1,[0]),(5,[0]),(6,[0])]⟩⟩) .nil)) (nO (nL (nO (nL ⟨[],0,⟨[hR 0 0 [0],hP 1 0 [4],hP 3 0 [5],hR 7 0 [6],hR 0 0 [0],hP 16 0 [8],hP 48 0 [9],hR 112 0 [10],hP 255 0 [7,11],hP 511 0 [12]],0,[(0,[0]),(3,[0]),(4,[0]),(7,[0])]⟩⟩) (nL ⟨[],0,⟨[hR 0 0 [0],hP 1 0 [13],hP 3 0 [14],hR 7 0 [15],hP 15 0 [16],hP 31 0 [17],hR 63 0 [18],hR 0 0 [0],hP 128 0 [20],hP 384 0 [21],hR 896 0 [22],hE 2047 0 [19,23],hP 4095 1 [24],hP 8191 1 [25,3],hP 16383 1 [25,26],hP 32767 1 [25,27],hR 65535 1 [25,28],hP 131071 1 [25,29],hP 262143 1 [25,30]],1,[(0,[0]),(3,[0]),(6,[0]),(7,[0]),(10,[0]),(16,[1])]⟩⟩))) .nil))) (nO (nS (nO .nil (nO .nil (nL ⟨[],0,⟨[hP 0 0 [0],hP 0 0 [5],hP 3 0 [16,17],hR 7 0 [18],hP 0 0 [1],hP 0 0 [5],hP 48 0 [20,21],hR 112 0 [22],hP 255 0 [19,23]],0,[(3,[0]),(7,[0])]⟩⟩))) (nS (nO (nL ⟨[],0,⟨[hP 0 0 [0],hP 1 0 [5],hP 3 0 [6],hR 7 0 [7],hP 0 0 [1],hR 16 0 [9],hR 63 0 [8,10],hP 127 0 [11],hP 255 0 [12]],0,[(3,[0]),(5,[0]),(6,[0])]⟩⟩) (nL ⟨[],0,⟨[hP 0 0 [0],hP 1 0 [13],hP 3 0 [14],hR 7 0 [15],hP 0 0 [1],hR 16 0 [17],hE 63 0 [16,18]],1,[(3,[0]),(5,[0])]⟩⟩)) .nil (nL (nL ⟨[],0,⟨[hR 0 0 [0],hP 1 0 [2],hP 3 0 [3],hP 7 0 [4],hR 15 0 [5],hR 0 0 [1],hR 0 0 [0],hE 64 0 [8],hP 255 1 [6,7],hP 511 1 [10],hE 1023 1 [11,9]],2,[(0,[0,1]),(4,[0,1]),(5,[0,1]),(6,[0])]⟩⟩))) (nS (nO .nil (nL ⟨[],0,⟨[hP 0 0 [0],hP 1 0 [6],hP 3 0 [7],hP 7 0 [8],hR 15 0 [9],hP 0 0 [3],hP 0 0 [0],hP 64 0 [12],hP 192 0 [13],hP 448 0 [14],hR 960 0 [15],hE 2016 0 [11,16],hP 4064 1 [17],hP 8160 1 [18],hP 16383 1 [10,19],hP 0 1 [],hE 65535 1 [4,20]],2,[(4,[0,1]),(10,[0])]⟩⟩)) (nL (nO (nL ⟨[],0,⟨[hR 0 0 [0],hP 1 0 [3],hP 3 0 [4],hR 7 0 [5],hR 0 0 [0],hP 16 0 [7],hP 48 0 [8],hP 112 0 [9],hR 240 0 [10],hP 511 0 [6],hP 1023 0 [12],hE 2047 0 [13,11]],1,[(0,[0]),(3,[0]),(4,[0]),(8,[0])]⟩⟩) .nil)) .nil)) (nO (nL (nO (nL ⟨[],0,⟨[hP 0 0 [0],hP 1 0 [4],hP 3 0 [5],hR 7 0 [6],hR 15 0 [7],hP 31 0 [8],hP 63 0 [9],hP 127 0 [10,0],hP 255 0 [10,11],hP 511 0 [10,12],hR 1023 0 [10,13],hP 2047 0 [10,14],hR 4095 0 [10,15],hP 127 0 [10,1],hR 8319 0 [10,17],hP 32767 0 [10,16,18],hP 65535 0 [10,19]],0,[(3,[0]),(4,[0]),(10,[0]),(12,[0]),(14,[0])]⟩⟩) .nil)) (nO (nL (nO .nil (nL ⟨[],0,⟨[hP 0 0 [0],hP 0 0 [1],hP 0 0 [2],hP 6 0 [13,14],hP 1 0 [12],hP 31 0 [16,15],hR 63 0 [17]],0,[(6,[0])]⟩⟩))) .nil)))) (nO (nS (nO .nil (nO .nil (nO .nil (nL ⟨[],0,⟨[hR 0 0 [1],hR 0 0 [7],hP 0 0 [7],hR 4 0 [67],hP 0 0 [8],hP 28 0 [68,69],hR 60 0 [70],hE 127 0 [65,66,71],hP 255 1 [72],hP 511 1 [73],hP 1023 1 [74,7],hR 2047 1 [74,75],hP 1023 1 [74,8],hP 8191 1 [74,76,77],hP 16383 1 [74,78],hR 32767 1 [74,79],hP 1023 1 [74,7],hE 131071 1 [74,80,81],hP 262143 2 [74,82],hP 524287 2 [83]],2,[(0,[0]),(1,[0]),(3,[0]),(6,[0]),(11,[1]),(15,[1])]⟩⟩)))) (nS (nO (nL ⟨[],0,⟨[hP 0 0 [0],hP 1 0 [6],hP 3 0 [7],hP 7 0 [8],hR 15 0 [9],hP 0 0 [3],hR 32 0 [11],hP 127 0 [10,12],hP 255 0 [13],hR 511 0 [14],hP 0 0 [],hE 2047 0 [5,15]],1,[(4,[0]),(6,[0]),(9,[0])]⟩⟩) .nil) (nO .nil (nL (nO .nil (nO (nL ⟨[],0,⟨[hP 0 0 [1],hR 1 0 [15],hP 3 0 [16],hP 7 0 [17],hP 15 0 [18,1],hR 31 0 [18,19],hP 63 0 [18,20],hP 127 0 [18,21],hP 255 0 [22],hP 511 0 [23,1],hR 1023 0 [23,24],hE 2047 0 [23,25],hP 4095 1 [23,26],hP 8191 1 [23,27],hP 16383 1 [28],hP 32767 1 [29,1],hR 65535 1 [29,30],hP 131071 1 [29,31],hP 262143 1 [29,32],hP 524287 1 [33],hP 1048575 1 [34,1],hR 2097151 1 [34,35],hR 4194303 1 [34,36],hP 1048575 1 [34,1],hR 9437183 1 [34,38],hE 26214399 1 [34,39],hP 67108863 2 [34,37,40],hP 134217727 2 [34,41],hP 268435455 2 [42],hP 536870911 2 [43,1],hR 1073741823 2 [43,44],hR 2147483647 2 [43,45],hP 4294967295 2 [43,46],hP 8589934591 2 [43,47],hP 17179869183 2 [48],hP 34359738367 2 [49,3],hP 68719476735 2 [49,50],hP 137438953471 2 [49,51],hP 274877906943 2 [52,1],hR 549755813887 2 [52,53],hP 1099511627775 2 [52,54],hP 2199023255551 2 [49,52,55],hP 4398046511103 2 [49,56]],2,[(1,[0]),(5,[0]),(10,[0]),(16,[1]),(21,[1,2]),(22,[1,2]),(24,[1]),(30,[2]),(31,[2]),(39,[2])]⟩⟩) .nil)))) (nO (nL (nO (nS ⟨[],0,⟨[hR 0 0 [0],hP 1 0 [3],hP 3 0 [4],hP 7 0 [5],hR 15 0 [6],hR 0 0 [0],hP 32 0 [8],hP 96 0 [9],hR 224 0 [10],hP 480 0 [11],hP 992 0 [12],hR 2016 0 [13],hP 4064 0 [14],hP 8191 0 [7,15],hP 16383 0 [16],hR 32767 0 [17,0],hP 65535 0 [17,18],hP 131071 0 [17,19],hP 262143 0 [17,20],hR 524287 0 [17,21],hR 32767 0 [17,0],hP 1081343 0 [17,23],hP 3178495 0 [17,24],hR 7372799 0 [17,25],hP 15761407 0 [17,26],hP 32538623 0 [17,27],hR 66093055 0 [17,28],hP 133201919 0 [17,29],hP 268435455 0 [17,22,30],hP 536870911 0 [17,31]],0,[(0,[0]),(4,[0]),(5,[0]),(8,[0]),(11,[0]),(15,[0]),(19,[0]),(20,[0]),(23,[0]),(26,[0])]⟩⟩ (nL ⟨[],0,⟨[hR 0 0 [0],hP 1 0 [33],hP 3 0 [34],hR 7 0 [35],hP 15 0 [36],hP 31 0 [37],hR 63 0 [38],hR 0 0 [0],hP 128 0 [40],hP 384 0 [41],hP 896 0 [42],hR 1920 0 [43],hP 4095 0 [39,44],hP 8191 0 [36],hP 16383 0 [46],hE 32767 0 [47,45]],1,[(0,[0]),(3,[0]),(6,[0]),(7,[0]),(11,[0])]⟩⟩) .nil) .nil)) .nil)) (nO (nO (nL (nO (nO (nL ⟨[],0,⟨[hP 0 0 [0],hP 1 0 [11],hP 3 0 [12],hR 7 0 [13],hP 0 0 [0],hP 16 0 [15],hP 48 0 [16],hR 112 0 [17],hP 255 0 [14],hP 511 0 [19],hE 1023 0 [20,18]],1,[(3,[0]),(7,[0])]⟩⟩) .nil) .nil)) (nL (nO (nO .nil (nO (nL ⟨[],0,⟨[hP 0 0 [1],hR 1 0 [43],hP 3 0 [44],hP 7 0 [45],hP 15 0 [46,3],hP 31 0 [46,47],hP 63 0 [46,48],hP 127 0 [49],hP 255 0 [50,3],hP 511 0 [50,51],hP 1023 0 [50,52],hP 2047 0 [53],hP 4095 0 [54,3],hP 8191 0 [54,55],hP 16383 0 [54,4,56],hR 32767 0 [54,57],hP 4095 0 [54,1],hR 69631 0 [54,59],hE 262143 0 [54,58,60],hP 524287 1 [54,61],hP 1048575 1 [62]],1,[(1,[0]),(15,[0]),(17,[0])]⟩⟩) .nil)) .nil))) .nil)) (nS (nO .nil (nO .nil (nL ⟨[],0,⟨[hP 0 0 [3],hR 1 0 [33],hP 0 0 [2],hP 7 0 [34,35],hP 15 0 [36],hR 31 0 [37],hP 0 0 [8],hR 64 0 [39],hP 255 0 [38,40],hR 511 0 [41],hP 0 0 [],hE 2047 0 [9,42]],1,[(1,[0]),(5,[0]),(7,[0]),(9,[0])]⟩⟩))) (nO (nO (nL (nO (nL ⟨[],0,⟨[hP 0 0 [3],hR 1 0 [6],hP 0 0 [0],hP 4 0 [8],hP 12 0 [9],hR 28 0 [10],hP 0 0 [3],hR 64 0 [12],hR 252 0 [11,13],hP 0 0 [0],hP 0 0 [3],hR 1024 0 [16],hE 3584 0 [15,17],hP 8191 1 [7,14,18],hP 0 1 [],hE 32767 1 [4,19]],2,[(1,[0,1]),(5,[0,1]),(7,[0,1]),(8,[0,1]),(11,[0])]⟩⟩) .nil)) .nil) .nil) (nO (nS (nO (nO .nil (nL ⟨[],0,⟨[hP 0 0 [5],hR 1 0 [16],hE 3 0 [17],hP 0 1 [5],hR 8 1 [19],hE 31 1 [20],hP 31 2 [5],hE 127 2 [22,18],hP 255 3 [5],hE 511 3 [23,21]],4,[(1,[0]),(4,[0,1])]⟩⟩)) (nO .nil (nO .nil (nL ⟨[],0,⟨[hR 0 0 [3],hP 0 0 [1],hR 2 0 [51],hE 6 0 [52],hP 15 1 [50,53],hE 31 1 [2,54]],2,[(0,[0,1]),(2,[0])]⟩⟩)))) (nL (nO (nL ⟨[],0,⟨[hR 0 0 [0],hP 1 0 [4],hP 3 0 [5],hR 7 0 [6],hP 15 0 [7],hP 31 0 [8],hR 63 0 [9],hR 0 0 [0],hP 128 0 [11],hP 384 0 [12],hR 896 0 [13],hE 2047 0 [10,14],hP 4095 1 [15]],1,[(0,[0]),(3,[0]),(6,[0]),(7,[0]),(10,[0])]⟩⟩) (nO (nL ⟨[],0,⟨[hR 0 0 [0],hP 1 0 [18],hP 3 0 [19],hR 7 0 [20],hR 0 0 [0],hP 16 0 [22],hP 48 0 [23],hR 112 0 [24],hP 240 0 [25],hP 496 0 [26],hR 1008 0 [27],hP 0 0 [3],hP 0 0 [3],hP 4096 0 [30],hE 16368 0 [28,29,31],hP 32767 1 [21],hP 65535 1 [33],hE 131071 1 [34,32]],2,[(0,[0,1]),(3,[0,1]),(4,[0]),(7,[0]),(10,[0])]⟩⟩) .nil))) .nil) (nL (nO (nL ⟨[],0,⟨[hP 0 0 [4],hR 1 0 [8],hP 0 0 [2],hP 7 0 [9,10],hP 15 0 [11],hR 31 0 [12],hP 63 0 [13],hP 127 0 [14],hP 255 0 [15,4],hR 511 0 [15,16],hP 255 0 [15,2],hP 2047 0 [15,17,18],hP 4095 0 [15,19],hR 8191 0 [15,20],hP 255 0 [15,3],hR 16639 0 [15,22],hP 255 0 [15,2],hP 114943 0 [15,23,24],hP 246015 0 [15,25],hR 508159 0 [15,26],hR 1032447 0 [15,27],hP 2097151 0 [15,21,28],hP 4194303 0 [15,29],hP 8388607 0 [30]],0,[(1,[0]),(5,[0]),(9,[0]),(13,[0]),(15,[0]),(19,[0]),(20,[0])]⟩⟩) .nil))))))))
end Go.As.Try
end
section
namespace Go.As.Try
open Go Go.As Go.Proofs
set_option maxRecDepth 100000
theorem aiE:(List.range 306).map tab.get=(List.range 306).map (asA Tryz.prog):=by kernel_rfl
theorem Xj:(List.range 260).map UL.get=(List.range 260).map (fun g=>Tryz.prog.funcs[g]?):=by kernel_rfl
theorem anJ:(List.range 260).all (fun g=>match UL.get g with | some f=>aA0 (Vt (lim 306 tab) (hAt htab) g) f | none=>true)=true:=by kernel_rfl
theorem mixed:Tryz.prog.follows .mixedOrders=true:=by kernel_rfl
end Go.As.Try
namespace Go.Proofs
open Go.Shelf
def Tryz.laysM144_ren:Go.Shelf.Ren:=⟨fun | 144=>190 | 143=>208 | 219=>219 | 217=>218 | 225=>227 | 224=>228 | 267=>229 | 266=>226 | 314=>235 | n=>n,fun | 9=>9 | 4=>4 | 3=>3 | 5=>5 | 46=>281 | 146=>287 | 51=>284 | n=>n,fun | 1=>0 | n=>n⟩
theorem Tryz.laysM144:Go.Proofs.LaysM.n144 Tryz.prog Tryz.laysM144_ren where
 mixed:=by kernel_rfl
 f143:=Tryz.func208.trans (congrArg some (by kernel_rfl))
 f144:=Tryz.func190.trans (congrArg some (by kernel_rfl))
 f217:=Tryz.func218.trans (congrArg some (by kernel_rfl))
 f219:=Tryz.func219.trans (congrArg some (by kernel_rfl))
 f224:=Tryz.func228.trans (congrArg some (by kernel_rfl))
 f225:=Tryz.func227.trans (congrArg some (by kernel_rfl))
 f266:=Tryz.func226.trans (congrArg some (by kernel_rfl))
 f267:=Tryz.func229.trans (congrArg some (by kernel_rfl))
 f314:=Tryz.func235.trans (congrArg some (by kernel_rfl))
 t3:=Tryz.underlying3
 a3:=Tryz.isAgg3
 z3:=Tryz.sizeOf3
 v3:=Tryz.zeroValue3
 t4:=Tryz.underlying4
 a4:=Tryz.isAgg4
 z4:=Tryz.sizeOf4
 v4:=Tryz.zeroValue4
 t5:=Tryz.underlying5
 a5:=Tryz.isAgg5
 z5:=Tryz.sizeOf5
 v5:=Tryz.zeroValue5
 t9:=Tryz.underlying9
 a9:=Tryz.isAgg9
 z9:=Tryz.sizeOf9
 v9:=Tryz.zeroValue9
 t46:=Tryz.underlying281
 a46:=Tryz.isAgg281
 z46:=Tryz.sizeOf281
 v46:=Tryz.zeroValue281
 t51:=Tryz.underlying284
 a51:=Tryz.isAgg284
 z51:=Tryz.sizeOf284
 v51:=Tryz.zeroValue284
 t146:=Tryz.underlying287
 a146:=Tryz.isAgg287
 z146:=Tryz.sizeOf287
 v146:=Tryz.zeroValue287
 g1:=by kernel_rfl
 i3:=by kernel_rfl
 i4:=by kernel_rfl
 i5:=by kernel_rfl
 i9:=by kernel_rfl
 i46:=by kernel_rfl
 i51:=by kernel_rfl
 i146:=by kernel_rfl
 m1:=by kernel_rfl
 s1_3:=fun w h=>Go.Proofs.cell_of_shapedOpen_int (zero:=#[.int .i64 0]) (t:=3) h (of_decide_eq_true (by kernel_rfl)) (by kernel_rfl) rfl (by kernel_rfl) (by kernel_rfl) Tryz.underlying3
end Go.Proofs
end
section
namespace Go.As
noncomputable section
open Go.RowKit
def Aa:List AV→St→T (AV×St):=fun args s=>match args with
 | [.mP e,.int .u8 (.lit (.ofNat c))]=>if c < 256 then .ret (.int .i64 (.op .cnt e (.lit (Int.ofNat c))),s) else .fail
 | args=>IK args s
def zZ:List AV→St→T (AV×St):=fun args s=>match args with
 | [.mP e,.int .u8 (.lit (.ofNat c))]=>if c < 256 then .ret (.int .i64 (.op .idx e (.lit (Int.ofNat c))),s) else .fail
 | args=>IJ args s
def sK:List AV→St→T (AV×St):=fun args s=>match args with
 | [.str b,.mP e]=>if b.length < 4294967281 then .ret (.bool (.not (.eq (.op .con (.dat (oQ b)) e) (.lit 0))),s) else .fail
 | args=>Ac args s
theorem adT {x:UInt8} {c:Nat} (hc:c < 256):(D.i (x.toNat:Int)= .i (c:Int))↔x=UInt8.ofNat c:=by
 simp only [D.i.injEq,Int.ofNat_inj];constructor
 ·intro h;rw [← h];simp
 ·intro h;rw [h,UInt8.toNat_ofNat'];omega
theorem adV {c:Nat} (hc:c < 256): ∀l:List UInt8,(Lib.countByte l (UInt8.ofNat c):Int)=aqQ (l.map fun b=> .i (b.toNat:Int)) (c:Int)
 | []=>rfl
 | x :: xs=>by
   have ih:=adV hc xs;unfold Lib.countByte at *;rw [List.count_cons,List.map_cons];simp only [aqQ];rw [← ih];by_cases h:x=UInt8.ofNat c
   ·rw [if_pos ((adT hc).2 h),if_pos (by simpa using h)];omega
   ·rw [if_neg (fun q=>h ((adT hc).1 q)),if_neg (by simpa using h)];omega
theorem XM {c:Nat} (hc:c < 256): ∀(l:List UInt8) (i:Nat),(Lib.indexByte l (UInt8.ofNat c)= -1→xB (c:Int) (l.map fun b=> .i (b.toNat:Int)) (i:Int)= -1)∧(Lib.indexByte l (UInt8.ofNat c)≠-1→xB (c:Int) (l.map fun b=> .i (b.toNat:Int)) (i:Int)=(i:Int)+Lib.indexByte l (UInt8.ofNat c))
 | [],i=> ⟨fun _=>rfl,fun h=>absurd rfl h⟩
 | x :: xs,i=>by
   obtain⟨ih1,ih2⟩:=XM hc xs (i+1);have hge:=Lib.indexByte_ge xs (UInt8.ofNat c);have hcast:(((i+1:Nat):Int))=(i:Int)+1:=by omega
   rw [hcast] at ih1 ih2
   have key:Lib.indexByte (x :: xs) (UInt8.ofNat c)=if x=UInt8.ofNat c then 0 else if Lib.indexByte xs (UInt8.ofNat c)= -1 then -1 else Lib.indexByte xs (UInt8.ofNat c)+1:=by simp only [Lib.indexByte,beq_iff_eq]
   have key2:xB (c:Int) ((x :: xs).map fun b=> .i (b.toNat:Int)) (i:Int)=if (x.toNat:Int)=(c:Int) then (i:Int) else xB (c:Int) (xs.map fun b=> .i (b.toNat:Int)) ((i:Int)+1):=rfl;by_cases h:x=UInt8.ofNat c
   ·have h':=(adT hc).2 h;simp only [D.i.injEq] at h';rw [key,key2,if_pos h,if_pos h'];exact⟨fun q=>by omega,fun _=>by omega⟩
   ·have h': ¬(x.toNat:Int)=(c:Int):=fun q=>h ((adT hc).1 (by rw [q]));rw [key,key2,if_neg h,if_neg h'];by_cases hi:Lib.indexByte xs (UInt8.ofNat c)= -1
    ·rw [if_pos hi];exact⟨fun _=>ih1 hi,fun q=>absurd rfl q⟩
    ·rw [if_neg hi];exact⟨fun q=>by omega,fun _=>by rw [ih2 hi]; omega⟩
theorem awL {c:Nat} (hc:c < 256) (l:List UInt8):OB (l.map fun b=> .i (b.toNat:Int)) (c:Int)=Lib.indexByte l (UInt8.ofNat c):=by
 obtain⟨h1,h2⟩:=XM hc l 0;unfold OB;by_cases h:Lib.indexByte l (UInt8.ofNat c)= -1
 ·have:=h1 h;rw [h]; exact this
 ·have:=h2 h;rw [show ((0:Nat):Int)=0 from rfl,Int.zero_add] at this;exact this
theorem adS: ∀(c s:List UInt8),Z7 (c.map fun b=> .i (b.toNat:Int)) (s.map fun b=> .i (b.toNat:Int))=c.isPrefixOf s
 | [],s=>by simp [Z7]
 | _ :: _,[]=>rfl
 | a :: x,b :: y=>by simp only [List.map_cons,Z7,List.isPrefixOf,adS x y];congr 1;rw [Bool.eq_iff_iff,decide_eq_true_eq,beq_iff_eq];simp only [D.i.injEq,Int.ofNat_inj];exact UInt8.toNat_inj
theorem adU (c:List UInt8): ∀s:List UInt8,ahG (s.map fun b=> .i (b.toNat:Int)) (c.map fun b=> .i (b.toNat:Int))=Lib.contains s c
 | []=>by cases c <;> simp [ahG,Z7,Lib.contains,Lib.index]
 | b :: bs=>by
   have ih:=adU c bs;have hp:=adS c (b :: bs);simp only [List.map_cons] at hp;unfold Lib.contains at *;simp only [List.map_cons,Lib.index,ahG];rw [hp,ih];have hge:=index_ge c bs
   have key:(0≤(if c.isPrefixOf (b :: bs)=true then (0:Int) else if (Lib.index bs c == -1)=true then -1 else Lib.index bs c+1))↔(c.isPrefixOf (b :: bs)=true∨0≤Lib.index bs c):=by
    by_cases hq:c.isPrefixOf (b :: bs)=true
    ·simp [hq]
    ·by_cases h1:Lib.index bs c= -1
     ·simp [hq,h1]
     ·simp only [beq_iff_eq,hq,h1,if_false,false_or,Bool.false_eq_true];omega
   rw [Bool.eq_iff_iff,Bool.or_eq_true,decide_eq_true_eq];exact key.symm.trans decide_eq_true_iff.symm
section
variable {P:Program}
theorem ahH [Glob] {g:FuncId} {fn:Func} (hf:P.funcs[g]?=some fn) (hname:(fn.name == "runtime.NumGoroutine")=false) (hb:fn.body.isNone=true) (hn:Extern.findNext fn=none) (he:Extern.find fn=some Extern.BytealgCount.count):nC P g Aa:=by
 intro aF9 s E w vals u s' r hv hp hl;unfold Aa at hl;split at hl
 ·rename_i e c;split at hl
  ·rename_i hc;have:=aF hl;simp only [Prod.mk.injEq] at this;obtain⟨rfl,rfl⟩:=this;simp only [bJ,VR,SE.den] at hv;obtain⟨u1,r1,rfl,hrd,u2,r2,rfl,rfl,rfl⟩:=hv;obtain⟨st,rfl,hd⟩:=hrd.string;refine⟨rfl,hp,?_⟩;unfold uV uT;rw [DF hf hname hb hn he (Lib.run_countString st (Int.ofNat c) w)];refine⟨E,Stp.refl _ _ _,r,?_⟩;simp only [VR,SE.den,iL.den];have:(Int.ofNat c).toNat.toUInt8=UInt8.ofNat c:=rfl;rw [this,adV hc,hd];unfold Aw wH;rw [aT];rfl
  ·simp [T.leaf] at hl
 ·exact aqR hf hname hb hn he _ _ _ _ _ _ _ r hv hp hl
theorem agG [Glob] {g:FuncId} {fn:Func} (hf:P.funcs[g]?=some fn) (hname:(fn.name == "runtime.NumGoroutine")=false) (hb:fn.body.isNone=true) (hn:Extern.findNext fn=none) (he:Extern.find fn=some Extern.BytealgIndexByte.indexByte):nC P g zZ:=by
 intro aF9 s E w vals u s' r hv hp hl;unfold zZ at hl;split at hl
 ·rename_i e c;split at hl
  ·rename_i hc;have:=aF hl;simp only [Prod.mk.injEq] at this;obtain⟨rfl,rfl⟩:=this;simp only [bJ,VR,SE.den] at hv;obtain⟨u1,r1,rfl,hrd,u2,r2,rfl,rfl,rfl⟩:=hv;obtain⟨st,rfl,hd⟩:=hrd.string;refine⟨rfl,hp,?_⟩;unfold uV uT;rw [DF hf hname hb hn he (Lib.run_indexByteString st (Int.ofNat c) w)];refine⟨E,Stp.refl _ _ _,r,?_⟩;simp only [VR,SE.den,iL.den];have:(Int.ofNat c).toNat.toUInt8=UInt8.ofNat c:=rfl;rw [this,← awL hc,hd];unfold Aw wH;rw [aT];rfl
  ·simp [T.leaf] at hl
 ·exact amN hf hname hb hn he _ _ _ _ _ _ _ r hv hp hl
theorem Vq [Glob] {g:FuncId} (hg: ∀(ρ:Nat→Int) (ro:Nat→Prop) (w:World),Glob.ok ρ ro w.heap→∀s sub:ByteArray,s.size < 4294967281→Calls P g #[.string s,.string sub] w fun e w'=>e= .returned (.bool (Lib.contains s.data.toList sub.data.toList))∧w'=w)
 (hrun: ∀(args:Array Value) (w:World),(callFunc g args).run P w= .ok (.enter g args) w):nC P g sK:=by
 intro aF9 s E w vals u s' r hv hp hl;unfold sK at hl;split at hl
 ·rename_i b e;split at hl
  ·rename_i hlen;have:=aF hl;simp only [Prod.mk.injEq] at this;obtain⟨rfl,rfl⟩:=this;simp only [bJ,VR] at hv;obtain⟨u1,r1,rfl,⟨rfl,hbb⟩,u2,r2,rfl,hrd,rfl⟩:=hv;obtain⟨st,rfl,hd⟩:=hrd.string;refine⟨rfl,hp,?_⟩;unfold uV uT;rw [hrun];refine Calls.mono (hg E.ρ E.ro w r.glob (bZ b) st (by simpa [bZ,ByteArray.size] using hlen)) fun e' w' ⟨he,hw⟩=>?_;subst hw;refine⟨_,he,E,Stp.refl _ _ _,r,?_⟩;simp only [VR,SB.den,SE.den,iL.den,aC];have h2:(bZ b).data.toList=b.map UInt8.ofNat:=by simp [bZ]
   rw [h2,hd,G8 b hbb];unfold Aw wH;rw [aT,aT,adU];cases Lib.contains (b.map UInt8.ofNat) st.data.toList <;> rfl
  ·simp [T.leaf] at hl
 ·exact XP hg hrun _ _ _ _ _ _ _ r hv hp hl
end
end
end Go.As
end
section
namespace Go.As
noncomputable section
open Go.RowKit
mutual
def jV (h:Hp):AV→AV→Bool
 | .bool (.lit a),v=>match v with
   | .bool (.lit b)=>a == b
   | _=>false
 | .int k (.lit a),v=>match v with
   | .int k' (.lit b)=>decide (k=k') && decide (a=b)
   | _=>false
 | .str s,v=>match v with
   | .str t=>jI s t
   | _=>false
 | .aA,v=>match v with
   | .aA=>true
   | _=>false
 | .agg ks,v=>match v with
   | .agg cs=>Nat.beq ks.length cs.length && zM h ks cs
   | _=>false
 | .ro ks n false,v=>match v with
   | .slice id off len _=>match Nat.beq n len with
     | true=>match n with
       | 0=>false
       | _=>match h.get id with
         | some (.cells cs _)=>match fD off cs with
           | some l=>zM h ks l
           | none=>false
         | _=>false
     | false=>false
   | .ro cs m _=>Nat.beq n m && zM h ks cs
   | _=>false
 | _,_=>false
def zM (h:Hp):List AV→List AV→Bool
 | [],_=>true
 | k :: ks,l=>match l with
   | v :: vs=>match jV h k v with
     | true=>zM h ks vs
     | false=>false
   | []=>false
end
def RD (h:Hp) (aF9:List AV):List (List AV×AV)→Option AV
 | []=>none
 | (k,v) :: l=>match Nat.beq k.length aF9.length with
   | true=>match zM h k aF9 with
     | true=>some v
     | false=>RD h aF9 l
   | false=>RD h aF9 l
def acG (tbl:List (List AV×AV)):List AV→St→T (AV×St):=fun aF9 s=>match RD s.h aF9 tbl with
 | some v=> .ret (v,s)
 | none=> .fail
def UJ (key:List AV) (v:AV) (f:List AV→St→T (AV×St)):Bool:=
 jR v && (match f key ⟨.nil,Hp.zero,[]⟩ with | .ret (u,_)=>eU u v | _=>false)
section
variable {P:Program}
mutual
theorem agB [Glob] {E:En} {H:Hp} {w:World} (r:bH E H w) (ρ:Nat→Int): ∀(key v:AV) (u:Value),jV H key v=true→VR E w.heap v u→VR (En.zero ρ (fun b=>b < w.heap.size)) w.heap key u
 | .bool b,v,u,hm,hv=>by
   cases b <;> simp only [jV,Bool.false_eq_true] at hm;split at hm
   ·simp only [beq_iff_eq] at hm;subst hm;simpa [VR,SB.den] using hv
   ·simp at hm
 | .int k e,v,u,hm,hv=>by
   cases e <;> simp only [jV,Bool.false_eq_true] at hm;split at hm
   ·simp only [Bool.and_eq_true,decide_eq_true_eq] at hm;obtain⟨rfl,rfl⟩:=hm;simpa [VR,SE.den] using hv
   ·simp at hm
 | .str s,v,u,hm,hv=>by
   simp only [jV] at hm;split at hm
   ·have:=(qB _ _).1 hm;subst this;simpa only [VR] using hv
   ·simp at hm
 | .aA,v,u,hm,hv=>by
   simp only [jV] at hm;split at hm
   ·simpa only [VR] using hv
   ·simp at hm
 | .agg ks,v,u,hm,hv=>by
   simp only [jV] at hm;split at hm
   ·rename_i cs;simp only [Bool.and_eq_true] at hm;simp only [VR] at hv ⊢;obtain⟨us,rfl,h2⟩:=hv;obtain⟨h3,h4⟩:=yL r ρ ks cs us hm.2 h2;have e:=Nat.eq_of_beq_eq_true hm.1;rw [e,← h2.length,List.take_length] at h3;exact⟨us,rfl,h3⟩
   ·simp at hm
 | .ro ks n true,v,u,hm,hv=>by simp [jV] at hm
 | .ro ks n false,v,u,hm,hv=>by
   simp only [jV] at hm;split at hm
   ·rename_i id off len c;split at hm
    ·rename_i hn;have hn:=Nat.eq_of_beq_eq_true hn;subst hn;split at hm
     ·simp at hm
     ·rename_i hn0;split at hm
      ·rename_i cs e hg;split at hm
       ·rename_i l hl;simp only [VR] at hv ⊢;obtain⟨hd,a,cap,rfl,hle,hcap⟩:=hv;obtain⟨_,ho,_⟩:=r.live id _ hg;simp only [OR] at ho;obtain⟨arr,lo,hi,us,hb,h2,h3,_,_,_,h7⟩:=ho;obtain⟨q1,q2,q3⟩:=h2.fD hl;obtain⟨p1,p2⟩:=yL r ρ ks l _ hm q1
        have ha:a=⟨(E.θ id).1,(E.θ id).2+off,none⟩:=by
         cases c with
         | exact c=>
           simp only [fJ] at hcap;rcases hcap.2 with h | h
           ·exact h
           ·exact absurd (by omega) hn0
         | rest es=>
           simp only [fJ] at hcap;rcases hcap with h | h
           ·exact h.1
           ·exact absurd (by omega) hn0
        subst ha;have hlt:(E.θ id).1 < w.heap.size:=(Array.getElem?_eq_some_iff.1 hb).1;refine⟨_,_,cap,_,rfl,hle,by simp,hlt,p1,?_,?_⟩
        ·intro i x hx
         have hx':us[off+i]?=some x:=by
          rw [List.getElem?_take] at hx;split at hx
          ·rw [List.getElem?_drop] at hx; exact hx
          ·simp at hx
         have:=h3 _ _ hx';unfold hcell;rw [hb];simp only;rw [← this];congr 1;omega
        ·intro x hx;exact h7 x (List.mem_of_mem_drop (List.mem_of_mem_take hx))
       ·simp at hm
      ·simp at hm
    ·simp at hm
   ·rename_i cs m f;simp only [Bool.and_eq_true] at hm;have hn:=Nat.eq_of_beq_eq_true hm.1;subst hn;simp only [VR] at hv ⊢;obtain⟨b,o,cap,us,rfl,h2,h3,h4,h5,h6,h7⟩:=hv;obtain⟨p1,p2⟩:=yL r ρ ks cs _ hm.2 h5;refine⟨b,o,cap,_,rfl,h2,by simp,r.Bv b h4,p1,?_,fun x hx=>h7 x (List.mem_of_mem_take hx)⟩;intro i x hx;rw [List.getElem?_take] at hx;split at hx
    ·exact h6 i x hx
    ·simp at hx
   ·simp at hm
 | .ptr _ _,v,u,hm,_=>by simp [jV] at hm
 | .jS,v,u,hm,_=>by simp [jV] at hm
 | .rV _,v,u,hm,_=>by simp [jV] at hm
 | .slice _ _ _ _,v,u,hm,_=>by simp [jV] at hm
 | .map _,v,u,hm,_=>by simp [jV] at hm
 | .mO,v,u,hm,_=>by simp [jV] at hm
 | .func _ _ _,v,u,hm,_=>by simp [jV] at hm
 | .BI,v,u,hm,_=>by simp [jV] at hm
 | .iface _ _,v,u,hm,_=>by simp [jV] at hm
 | .ES,v,u,hm,_=>by simp [jV] at hm
 | .tuple _,v,u,hm,_=>by simp [jV] at hm
 | .opq _,v,u,hm,_=>by simp [jV] at hm
 | .inp _ _,v,u,hm,_=>by simp [jV] at hm
theorem yL [Glob] {E:En} {H:Hp} {w:World} (r:bH E H w) (ρ:Nat→Int): ∀(ks vs:List AV) (us:List Value),zM H ks vs=true→bJ E w.heap vs us→
 bJ (En.zero ρ (fun b=>b < w.heap.size)) w.heap ks (us.take ks.length)∧ks.length≤us.length
 | [],vs,us,_,_=>by simp [bJ]
 | k :: ks,[],us,hm,_=>by simp [zM] at hm
 | k :: ks,v :: vs,us,hm,hv=>by
   simp only [zM] at hm;split at hm
   ·rename_i h1;rw [aY] at hv;obtain⟨u,us',rfl,hu,hus⟩:=hv;obtain⟨p1,p2⟩:=yL r ρ ks vs us' hm hus;rw [List.length_cons,List.take_succ_cons,aY];exact⟨⟨u,_,rfl,agB r ρ k v u h1 hu,p1⟩,by simp; exact p2⟩
   ·simp at hm
end
theorem MZ {h:Hp} {aF9:List AV} {v:AV}: ∀{tbl:List (List AV×AV)},RD h aF9 tbl=some v→∃k,(k,v)∈tbl∧k.length=aF9.length∧zM h k aF9=true
 | [],hl=>by simp [RD] at hl
 | (k,x) :: l,hl=>by
   simp only [RD] at hl;split at hl
   ·rename_i h1;split at hl
    ·rename_i h2;simp only [Option.some.injEq] at hl;subst hl;exact⟨k,by simp,Nat.eq_of_beq_eq_true h1,h2⟩
    ·obtain⟨k',h1,h2⟩:=MZ hl;exact⟨k',by simp [h1],h2⟩
   ·obtain⟨k',h1,h2⟩:=MZ hl;exact⟨k',by simp [h1],h2⟩
theorem WQ [Glob] {g:FuncId} {f:List AV→St→T (AV×St)} (hf:nC P g f) {fn:Func} (hfn:P.funcs[g]?=some fn) (hname:(fn.name == "runtime.NumGoroutine")=false) {c:Code} (hb:fn.body=some c)
 {tbl:List (List AV×AV)} (h: ∀p∈tbl,UJ p.1 p.2 f=true):nC P g (acG tbl):=by
 intro aF9 s E w vals u s' r hv hp hl;unfold acG at hl;split at hl
 ·rename_i v hlook;have:=aF hl;simp only [Prod.mk.injEq] at this;obtain⟨rfl,rfl⟩:=this;obtain⟨k,hmem,hlen,aFr⟩:=MZ hlook;have hk:=h _ hmem;unfold UJ at hk;simp only [Bool.and_eq_true] at hk;obtain⟨h2,h3⟩:=hk;split at h3
  ·rename_i u' s1 hrun;have hu:=nZ _ _ h3;subst hu;obtain⟨p1,_⟩:=yL r E.ρ k aF9 vals aFr hv;rw [hlen,← hv.length,List.take_length] at p1;have hgl:Glob.ok E.ρ (fun b=>b < w.heap.size) w.heap:=Glob.keep r.glob r.Bv fun _ _=>rfl;have hc:=Ho hf hfn hname hb (ρ:=E.ρ) (ro:=fun b=>b < w.heap.size) (w:=w) (fun _ h=>h) hgl p1 (v:=u') (s':=s1) (by rw [hrun]; rfl);refine⟨rfl,hp,?_⟩
   have hrun:(callFunc g vals.toArray).run P w= .ok (.enter g vals.toArray) w:=by unfold callFunc;simp [hfn,hb,by simpa using hname]
   unfold uV uT;rw [hrun];exact Calls.mono hc fun e w' ⟨x,E',he,hx,_,hbl⟩=> ⟨x,he,E,(DX r hbl).1,(DX r hbl).2,DU u' x h2 hx⟩
  ·simp at h3
 ·simp [T.leaf] at hl
end
end
end Go.As
end
section
namespace Go.As.Try
open Go Go.As Go.Proofs Go.RowKit
set_option maxRecDepth 100000
def maxLen:Nat:=Tryz.laysM144_ren.g 1
def base:Yd where
 ok ro h:=ro maxLen∧∃m,hcell h maxLen 0=some (.int .i64 m)
 keep:=by intro ro ro' h h' hk h1 h2;obtain⟨a,m,hm⟩:=hk;refine⟨h1 _ a,m,?_⟩;unfold hcell at *;rw [h2 _ a];exact hm
noncomputable def tt0:TT:=lim 306 tab
noncomputable def ft:Nat→Option Func:=lim 260 UL
def owns:List (Nat×Nat):=[(22,3),(23,4),(26,0),(30,7),(31,8),(39,16),(40,17),(45,0),(52,9),(71,2),(72,5),(76,6),(198,14),(267,14),(147,0),(182,1),(235,1)]
noncomputable def ttE:TT:=WG owns tt0
noncomputable def hints:Nat→Nat→Option Tz:=hAt htab
theorem Lh:eG Tryz.prog tt0:=arV aiE
theorem aiF:eG Tryz.prog ttE:=atM Lh
theorem adD:ahN Tryz.prog (Vt tt0 hints) ft:=auI Xj anJ
theorem aBy:ahN Tryz.prog (Vt ttE hints) ft:=by unfold ttE; rw [aqU]; exact adD
def b (n:Nat):AV:=.int .u8 (.lit (.ofNat n))
def OG:AV:=.agg [b 0,b 0,b 0,b 0,b 0,b 0,b 0,b 0,b 0,b 1,b 1,b 0,b 0,b 1,b 0,b 0,b 0,b 0,b 0,b 0,b 0,b 0,b 0,b 0,b 0,b 0,b 0,b 0,b 0,b 0,b 0,b 0,b 1,b 0,b 0,b 2,b 0,b 0,b 0,b 0,b 5,b 5,b 5,b 5,b 0,b 5,b 0,b 0,b 3,b 3,b 3,b 3,b 3,b 3,b 3,b 3,b 3,b 3,b 0,b 5,b 5,b 5,b 0,b 0,b 0,b 4,b 4,b 4,b 4,b 4,b 4,b 4,b 4,b 4,b 4,b 4,b 4,b 4,b 4,b 4,b 4,b 4,b 4,b 4,b 4,b 4,b 4,b 4,b 4,b 4,b 4,b 0,b 0,b 0,b 0,b 4,b 0,b 4,b 4,b 4,b 4,b 4,b 4,b 4,b 4,b 4,b 4,b 4,b 4,b 4,b 4,b 4,b 4,b 4,b 4,b 4,b 4,b 4,b 4,b 4,b 4,b 4,b 4,b 5,b 0,b 5,b 0,b 0,b 0,b 0,b 0,b 0,b 0,b 0,b 0,b 0,b 0,b 0,b 0,b 0,b 0,b 0,b 0,b 0,b 0,b 0,b 0,b 0,b 0,b 0,b 0,b 0,b 0,b 0,b 0,b 0,b 0,b 0,b 0,b 0,b 0,b 0,b 0,b 0,b 0,b 0,b 0,b 0,b 0,b 0,b 0,b 0,b 0,b 0,b 0,b 0,b 0,b 0,b 0,b 0,b 0,b 0,b 0,b 0,b 0,b 0,b 0,b 0,b 0,b 0,b 0,b 0,b 0,b 0,b 0,b 0,b 0,b 0,b 0,b 0,b 0,b 0,b 0,b 0,b 0,b 0,b 0,b 0,b 0,b 0,b 0,b 0,b 0,b 0,b 0,b 0,b 0,b 0,b 0,b 0,b 0,b 0,b 0,b 0,b 0,b 0,b 0,b 0,b 0,b 0,b 0,b 0,b 0,b 0,b 0,b 0,b 0,b 0,b 0,b 0,b 0,b 0,b 0,b 0,b 0,b 0,b 0,b 0,b 0,b 0,b 0,b 0,b 0,b 0,b 0,b 0]
theorem GH {g:Nat} {f:Func} (h:UL.get g=some f) (hg:g < 260):Tryz.prog.funcs[g]?=some f:=by have:=congrArg (fun l=>l[g]?) Xj;simp only [List.getElem?_map,List.getElem?_range hg,Option.map_some,Option.some.injEq] at this;rw [← this];exact h
theorem aAT {g:Nat} {f:Func} (hf:Tryz.prog.funcs[g]?=some f) (hn:(f.name == "runtime.NumGoroutine")=false) (hb:f.body.isNone=false): ∀(args:Array Value) (w:World),(callFunc g args).run Tryz.prog w= .ok (.enter g args) w:=by intro args w;unfold callFunc;simp only [Sem.run_bind,run_program,Result.andThen_ok,hf];rw [hn,hb];simp
def acZ (g:Nat):Option (List AV→St→T (AV×St)):=
 match Nat.beq g 207 with
 | true=>some Aa
 | false=>match Nat.beq g 226 with
   | true=>some zZ
   | false=>match Nat.beq g 190 with
     | true=>some sK
     | false=>none
theorem aAV:Tryz.laysM144_ren.f 144=190:=by kernel_rfl
section
variable (I:Glob) (hI: ∀ρ ro h,I.ok ρ ro h→base.ok ro h)
theorem f207:@nC I Tryz.prog 207 Aa:=@ahH _ I 207 Tryz.f207 (GH (by kernel_rfl) (by decide)) (by kernel_rfl) (by kernel_rfl) (by kernel_rfl) (by kernel_rfl)
theorem f226:@nC I Tryz.prog 226 zZ:=@agG _ I 226 Tryz.f226 (GH (by kernel_rfl) (by decide)) (by kernel_rfl) (by kernel_rfl) (by kernel_rfl) (by kernel_rfl)
include hI in
theorem f190:@nC I Tryz.prog 190 sK:=by letI:=I;refine Vq ?_ (aAT (f:=Tryz.f190) (GH (by kernel_rfl) (by decide)) (by kernel_rfl) (by kernel_rfl));intro ρ ro w hw s sub hs;obtain⟨_,m,hm⟩:=hI _ _ _ hw;have:=Any.strings_Contains { Tryz.laysM144 with } s sub m w hs (by rw [uG]; exact hm);rw [aAV] at this;exact this
include hI in
theorem Xg: ∀(g:Nat) (h:List AV→St→T (AV×St)),acZ g=some h→@nC I Tryz.prog g h:=by
 intro g h hh;unfold acZ at hh;split at hh
 ·rename_i hg;have:=Nat.eq_of_beq_eq_true hg;subst this;simp at hh;subst hh;exact f207 I
 ·split at hh
  ·rename_i hg;have:=Nat.eq_of_beq_eq_true hg;subst this;simp at hh;subst hh;exact f226 I
  ·split at hh
   ·rename_i hg;have:=Nat.eq_of_beq_eq_true hg;subst this;simp at hh;subst hh;exact f190 I hI
   ·simp at hh
end
noncomputable def aDb (g:Nat):List AV→St→T (AV×St):=U3 tt0 ft acZ (SK tt0 hints) 100000 60 g
theorem atE (I:Glob) (hI: ∀ρ ro h,I.ok ρ ro h→base.ok ro h) (g:Nat):@nC I Tryz.prog g (aDb g):=@GY _ I _ Lh _ _ adD _ (Xg I hI) _ (fun _ hc=>@G6 _ I _ Lh mixed _ _ hc) 100000 60 g
theorem XT:gives [] OG (aDb 185)=true:=by kernel_rfl
theorem DW {f:Func} (h:f.body.isSome=true): ∃c,f.body=some c:=Option.isSome_iff_exists.1 h
theorem aaA (I:Glob) (hI: ∀ρ ro h,I.ok ρ ro h→base.ok ro h):@nC I Tryz.prog 185 (memo [] OG):=by letI:=I;obtain⟨c,hb⟩:=DW (f:=Tryz.f185) (by kernel_rfl);exact KG (atE I hI 185) (fn:=Tryz.f185) (GH (by kernel_rfl) (by decide)) (by kernel_rfl) hb XT
def Xf (g:Nat):Option (List AV→St→T (AV×St)):=
 match Nat.beq g 185 with
 | true=>some (memo [] OG)
 | false=>acZ g
theorem Nz (I:Glob) (hI: ∀ρ ro h,I.ok ρ ro h→base.ok ro h): ∀(g:Nat) (h:List AV→St→T (AV×St)),Xf g=some h→@nC I Tryz.prog g h:=by
 intro g h hh;unfold Xf at hh;split at hh
 ·rename_i hg;have:=Nat.eq_of_beq_eq_true hg;subst this;simp at hh;subst hh;exact aaA I hI
 ·exact Xg I hI g h hh
noncomputable def YX (g:Nat):List AV→St→T (AV×St):=U3 tt0 ft Xf (SK tt0 hints) 100000 60 g
theorem Dj (I:Glob) (hI: ∀ρ ro h,I.ok ρ ro h→base.ok ro h) (g:Nat):@nC I Tryz.prog g (YX g):=@GY _ I _ Lh _ _ adD _ (Nz I hI) _ (fun _ hc=>@G6 _ I _ Lh mixed _ _ hc) 100000 60 g
theorem aA5:gives [.str [97]] (.bool (.lit true)) (YX 137)=true:=by kernel_rfl
theorem aA4:gives [.str [98]] (.bool (.lit true)) (YX 137)=true:=by kernel_rfl
def WZ:List AV:=[.agg [.ro [.int .u8 (.lit 1),.str [109],.int .i64 (.lit 0),.str [],.int .i64 (.lit 1)] 1 false,.ro [.str [97],.ro [.int .u8 (.lit 2),.int .u8 (.lit 0),.str [],.str [120],.int .i64 (.lit 0),.ro [.int .u8 (.lit 1),.str [],.int .i64 (.lit 1),.aA] 1 false,.aA,.aA,.int .i64 (.lit 1),.int .u8 (.lit 1),.int .u8 (.lit 1),.str [109],.str [],.int .i64 (.lit 0),.aA,.aA,.aA,.int .i64 (.lit 1)] 2 false,.int .i64 (.lit 1),.str [98],.ro [.int .u8 (.lit 1),.int .u8 (.lit 1),.str [109],.str [],.int .i64 (.lit 0),.aA,.aA,.aA,.int .i64 (.lit 1)] 1 false,.int .i64 (.lit 1)] 2 false]]
theorem aBg:UJ WZ (.agg [.int .i64 (.lit 0),.int .i64 (.lit 0)]) (YX 111)=true:=by kernel_rfl
def WX:List (List AV×AV):=[(WZ,.agg [.int .i64 (.lit 0),.int .i64 (.lit 0)])]
def acP:List AV:=[.agg [.ro [.int .u8 (.lit 1),.str [109],.int .i64 (.lit 0),.str [],.int .i64 (.lit 1)] 1 false,.ro [.str [97],.ro [.str [120]] 1 false,.ro [.int .u8 (.lit 3),.int .u8 (.lit 0),.int .i64 (.lit 0),.int .i64 (.lit 0),.int .i64 (.lit 0),.int .i64 (.lit 0),.ro [.int .u8 (.lit 1),.str [],.int .i64 (.lit 1),.aA] 1 false,.int .u8 (.lit 1),.int .u8 (.lit 1),.int .i64 (.lit 0),.int .i64 (.lit (-1)),.int .i64 (.lit 0),.int .i64 (.lit 0),.aA] 2 false,.str [98],.aA,.ro [.int .u8 (.lit 1),.int .u8 (.lit 1),.int .i64 (.lit 0),.int .i64 (.lit (-1)),.int .i64 (.lit 0),.int .i64 (.lit 0),.aA] 1 false] 2 false]]
theorem aDt:UJ acP (.int .i64 (.lit 0)) (YX 22)=true:=by kernel_rfl
def acN:List (List AV×AV):=[(acP,.int .i64 (.lit 0))]
noncomputable def amY (g:Nat):Option (List AV→St→T (AV×St)):=
 match Nat.beq g 111 with
 | true=>some (orElse (acG WX) (YX 111))
 | false=>match Nat.beq g 22 with
 | true=>some (orElse (acG acN) (YX 22))
 | false=>Xf g
theorem amX (I:Glob) (hI: ∀ρ ro h,I.ok ρ ro h→base.ok ro h): ∀(g:Nat) (h:List AV→St→T (AV×St)),amY g=some h→@nC I Tryz.prog g h:=by
 intro g h hh;letI:=I;unfold amY at hh;split at hh
 ·rename_i hg;have:=Nat.eq_of_beq_eq_true hg;subst this;simp only [Option.some.injEq] at hh;subst hh;obtain⟨c,hb⟩:=DW (f:=Tryz.f111) (by kernel_rfl);refine Dp (WQ (Dj I hI 111) (fn:=Tryz.f111) (GH (by kernel_rfl) (by decide)) (by kernel_rfl) hb fun p hp=>?_) (Dj I hI 111);simp only [WX,List.mem_cons,List.not_mem_nil,or_false] at hp;rcases hp with rfl
  ·exact aBg
 ·skip;split at hh
  ·rename_i hg;have:=Nat.eq_of_beq_eq_true hg;subst this;simp only [Option.some.injEq] at hh;subst hh;obtain⟨c,hb⟩:=DW (f:=Tryz.f22) (by kernel_rfl);refine Dp (WQ (Dj I hI 22) (fn:=Tryz.f22) (GH (by kernel_rfl) (by decide)) (by kernel_rfl) hb fun p hp=>?_) (Dj I hI 22);simp only [acN,List.mem_cons,List.not_mem_nil,or_false] at hp;rcases hp with rfl
   ·exact aDt
  ·skip;exact Nz I hI g h hh
noncomputable def aDa (g:Nat):List AV→St→T (AV×St):=U3 tt0 ft amY (SK tt0 hints) 100000 60 g
theorem atD (I:Glob) (hI: ∀ρ ro h,I.ok ρ ro h→base.ok ro h) (g:Nat):@nC I Tryz.prog g (aDa g):=@GY _ I _ Lh _ _ adD _ (amX I hI) _ (fun _ hc=>@G6 _ I _ Lh mixed _ _ hc) 100000 60 g
theorem aaC:gives [] (.bool (.lit true)) (aDa 8)=true:=by kernel_rfl
section
variable (I:Glob) (hI: ∀ρ ro h,I.ok ρ ro h→base.ok ro h)
include hI
theorem agA:@nC I Tryz.prog 137 (memo [.str [97]] (.bool (.lit true))):=by letI:=I;obtain⟨c,hb⟩:=DW (f:=Tryz.f137) (by kernel_rfl);exact KG (Dj I hI 137) (fn:=Tryz.f137) (GH (by kernel_rfl) (by decide)) (by kernel_rfl) hb aA5
theorem afZ:@nC I Tryz.prog 137 (memo [.str [98]] (.bool (.lit true))):=by letI:=I;obtain⟨c,hb⟩:=DW (f:=Tryz.f137) (by kernel_rfl);exact KG (Dj I hI 137) (fn:=Tryz.f137) (GH (by kernel_rfl) (by decide)) (by kernel_rfl) hb aA4
theorem ahK:@nC I Tryz.prog 8 (memo [] (.bool (.lit true))):=by letI:=I;obtain⟨c,hb⟩:=DW (f:=Tryz.f8) (by kernel_rfl);exact KG (atD I hI 8) (fn:=Tryz.f8) (GH (by kernel_rfl) (by decide)) (by kernel_rfl) hb aaC
end
def Zn (g:Nat):Option (List AV→St→T (AV×St)):=
 match Nat.beq g 8 with
  | true=>some (memo [] (.bool (.lit true)))
  | false=>match Nat.beq g 137 with
  | true=>some (orElse (memo [.str [97]] (.bool (.lit true))) (memo [.str [98]] (.bool (.lit true))))
  | false=>Xf g
theorem agH (I:Glob) (hI: ∀ρ ro h,I.ok ρ ro h→base.ok ro h): ∀(g:Nat) (h:List AV→St→T (AV×St)),Zn g=some h→@nC I Tryz.prog g h:=by
 intro g h hh;unfold Zn at hh;split at hh
 ·rename_i hg;have:=Nat.eq_of_beq_eq_true hg;subst this;simp at hh;subst hh;exact ahK I hI
 ·skip;split at hh
  ·rename_i hg;have:=Nat.eq_of_beq_eq_true hg;subst this;simp at hh;subst hh;letI:=I;exact Dp (agA I hI) (afZ I hI)
  ·exact Nz I hI g h hh
end Go.As.Try
end
section
namespace Go.As.Try
open Go hiding Stat Spec shape
open Go.As Go.Proofs
set_option maxRecDepth 100000
abbrev aI (n:Nat):AV:=.int .i64 (.aK n)
abbrev aJ (n:Int):AV:=.int .i64 (.lit n)
abbrev aU (n:Nat):AV:=.int .u8 (.aK n)
abbrev aD (n t:Nat):AV:=.dat (.aK n) t
abbrev aS (n:Nat):AV:=.mP (.aK n)
abbrev aB (n:Nat):AV:=.bool (.not (.eq (.aK n) (.lit 0)))
abbrev aV (b n t:Nat):AV:=.vS b (.op .len (.aK n) (.lit 0)) t
abbrev aE (n t:Nat):AV:=.Ia (.aK n) t
def cT0:List Int:=[0,0,0,0,0,0,0,0,0,1,1,0,0,1,0,0,0,0,0,0,0,0,0,0,0,0,0,0,0,0,0,0,1,0,0,2,0,0,0,0,5,5,5,5,0,5,0,0,3,3,3,3,3,3,3,3,3,3,0,5,5,5,0,0,0,4,4,4,4,4,4,4,4,4,4,4,4,4,4,4,4,4,4,4,4,4,4,4,4,4,4,0,0,0,0,4,0,4,4,4,4,4,4,4,4,4,4,4,4,4,4,4,4,4,4,4,4,4,4,4,4,4,4,5,0,5,0,0,0,0,0,0,0,0,0,0,0,0,0,0,0,0,0,0,0,0,0,0,0,0,0,0,0,0,0,0,0,0,0,0,0,0,0,0,0,0,0,0,0,0,0,0,0,0,0,0,0,0,0,0,0,0,0,0,0,0,0,0,0,0,0,0,0,0,0,0,0,0,0,0,0,0,0,0,0,0,0,0,0,0,0,0,0,0,0,0,0,0,0,0,0,0,0,0,0,0,0,0,0,0,0,0,0,0,0,0,0,0,0,0,0,0,0,0,0,0,0,0,0,0,0,0,0,0,0,0]
def aBD:FE:=⟨9000,115,[],[],some (⟨2,[(0,aD 1 7) ],[],[],.lit 0⟩,[],0),[⟨2,[(0,aV 0 1 7)],[.vec (.aK 1) 7 122 []],[],.lit 0⟩,⟨1,[(0,.aA) ],[],[],.lit 0⟩,⟨1,[(0,.slice 0 0 0 (.exact 0))],[.cells [] 122 ],[],.lit 0⟩,⟨8,[(0,aV 0 1 7)],[.vec (.aK 1) 7 122 [(.aK 0,[aI 2,aI 3,aB 4,aI 5,aV 1 6 0,aV 2 7 0])],
 .vec (.aK 6) 0 3 [],
 .vec (.aK 7) 0 2 []],[],.aK 0⟩,⟨8,[(0,aV 0 1 7)],[.vec (.aK 1) 7 122 [(.aK 0,[aI 2,aI 3,aB 4,aI 5,aV 1 6 0,aE 7 0])],
 .vec (.aK 6) 0 3 []],[],.aK 0⟩,⟨8,[(0,aV 0 1 7)],[.vec (.aK 1) 7 122 [(.aK 0,[aI 2,aI 3,aB 4,aI 5,aE 6 0,aV 1 7 0])],
 .vec (.aK 7) 0 2 []],[],.aK 0⟩,⟨8,[(0,aV 0 1 7)],[.vec (.aK 1) 7 122 [(.aK 0,[aI 2,aI 3,aB 4,aI 5,aE 6 0,aE 7 0])]],[],.aK 0⟩],[(3,1)],[11],1,[(8,0)],[],
 [([0,1,0,1,1],⟨4,[(0,aV 0 1 7),(7,aI 2),(8,aI 3)],[.vec (.aK 1) 7 122 []],[],.lit 0⟩),([0,1,0,1,1],⟨1,[(0,.aA),(7,aJ 0),(8,aJ 0) ],[],[],.lit 0⟩),([0,1,0,1,1],⟨1,[(0,.slice 0 0 0 (.exact 0)),(7,aJ 0),(8,aJ 0)],[.cells [] 122 ],[],.lit 0⟩),([0,1,0,1,1],⟨10,[(0,aV 0 1 7),(7,aI 2),(8,aI 3)],[.vec (.aK 1) 7 122 [(.aK 0,[aI 4,aI 5,aB 6,aI 7,aV 1 8 0,aV 2 9 0])],
  .vec (.aK 8) 0 3 [],
  .vec (.aK 9) 0 2 []],[],.lit 0⟩),([0,1,0,1,1],⟨10,[(0,aV 0 1 7),(7,aI 2),(8,aI 3)],[.vec (.aK 1) 7 122 [(.aK 0,[aI 4,aI 5,aB 6,aI 7,aV 1 8 0,aE 9 0])],
  .vec (.aK 8) 0 3 []],[],.lit 0⟩),([0,1,0,1,1],⟨10,[(0,aV 0 1 7),(7,aI 2),(8,aI 3)],[.vec (.aK 1) 7 122 [(.aK 0,[aI 4,aI 5,aB 6,aI 7,aE 8 0,aV 1 9 0])],
  .vec (.aK 9) 0 2 []],[],.lit 0⟩),([0,1,0,1,1],⟨10,[(0,aV 0 1 7),(7,aI 2),(8,aI 3)],[.vec (.aK 1) 7 122 [(.aK 0,[aI 4,aI 5,aB 6,aI 7,aE 8 0,aE 9 0])]],[],.lit 0⟩)]⟩
def aBC:FE:=⟨9050,27,[],[],some (⟨3,[(0,.agg [aD 1 7,aD 2 8]) ],[],[],.lit 0⟩,[],0),[⟨3,[(0,.agg [aD 1 7,aV 0 2 8])],[.vec (.aK 2) 8 47 []],[],.lit 0⟩,⟨2,[(0,.agg [aD 1 7,.aA]) ],[],[],.lit 0⟩,⟨2,[(0,.agg [aD 1 7,.slice 0 0 0 (.exact 0)])],[.cells [] 47 ],[],.lit 0⟩,⟨9,[(0,.agg [aD 1 7,aV 0 2 8])],[.vec (.aK 2) 8 47 [(.aK 0,[aI 3,aV 1 4 0,aU 5,aI 6,aI 7,aI 8])],
 .vec (.aK 4) 0 2 []],[],.aK 0⟩,⟨9,[(0,.agg [aD 1 7,aV 0 2 8])],[.vec (.aK 2) 8 47 [(.aK 0,[aI 3,aE 4 0,aU 5,aI 6,aI 7,aI 8])]],[],.aK 0⟩],[(2,0)],[10],1,[(44,0)],[(0,0,7)],
 [([0,1,0,1,1],⟨5,[(1,.ptr 0 0),(2,.ptr 1 0),(16,aI 1),(17,aI 2)],[.cells [aV 2 3 7,aV 3 4 8] 33,
  .cells [.aA,.aA] 33,
  .vec (.aK 3) 7 122 [],
  .vec (.aK 4) 8 47 []],[],.lit 0⟩),([0,1,0,1,1],⟨4,[(1,.ptr 0 0),(2,.ptr 1 0),(16,aI 1),(17,aI 2)],[.cells [aV 2 3 7,.aA] 33,
  .cells [.aA,.aA] 33,
  .vec (.aK 3) 7 122 []],[],.lit 0⟩),([0,1,0,1,1],⟨4,[(1,.ptr 0 0),(2,.ptr 1 0),(16,aI 1),(17,aI 2)],[.cells [aV 2 3 7,.slice 3 0 0 (.exact 0)] 33,
  .cells [.aA,.aA] 33,
  .vec (.aK 3) 7 122 [],
  .cells [] 47 ],[],.lit 0⟩),([0,1,0,1,1],⟨2,[(1,.ptr 0 0),(2,.ptr 1 0),(16,aJ 0),(17,aJ 0)],[.cells [.aA,aV 2 1 8] 33,
  .cells [.aA,.aA] 33,
  .vec (.aK 1) 8 47 []],[],.lit 0⟩),([0,1,0,1,1],⟨1,[(1,.ptr 0 0),(2,.ptr 1 0),(16,aJ 0),(17,aJ 0)],[.cells [.aA,.aA] 33,
  .cells [.aA,.aA] 33 ],[],.lit 0⟩),([0,1,0,1,1],⟨1,[(1,.ptr 0 0),(2,.ptr 1 0),(16,aJ 0),(17,aJ 0)],[.cells [.aA,.slice 2 0 0 (.exact 0)] 33,
  .cells [.aA,.aA] 33,
  .cells [] 47 ],[],.lit 0⟩),([0,1,0,1,1],⟨2,[(1,.ptr 0 0),(2,.ptr 1 0),(16,aJ 0),(17,aJ 0)],[.cells [.slice 2 0 0 (.exact 0),aV 3 1 8] 33,
  .cells [.aA,.aA] 33,
  .cells [] 122,
  .vec (.aK 1) 8 47 []],[],.lit 0⟩),([0,1,0,1,1],⟨1,[(1,.ptr 0 0),(2,.ptr 1 0),(16,aJ 0),(17,aJ 0)],[.cells [.slice 2 0 0 (.exact 0),.aA] 33,
  .cells [.aA,.aA] 33,
  .cells [] 122 ],[],.lit 0⟩),([0,1,0,1,1],⟨1,[(1,.ptr 0 0),(2,.ptr 1 0),(16,aJ 0),(17,aJ 0)],[.cells [.slice 2 0 0 (.exact 0),.slice 3 0 0 (.exact 0)] 33,
  .cells [.aA,.aA] 33,
  .cells [] 122,
  .cells [] 47 ],[],.lit 0⟩),([0,1,0,1,1,1],⟨5,[(1,.ptr 0 0),(2,.ptr 1 0),(43,aI 1),(44,aI 2)],[.cells [aV 2 3 7,aV 3 4 8] 33,
  .cells [.aA,.aA] 33,
  .vec (.aK 3) 7 122 [],
  .vec (.aK 4) 8 47 []],[],.lit 0⟩),([0,1,0,1,1,1],⟨2,[(1,.ptr 0 0),(2,.ptr 1 0),(43,aJ 0),(44,aJ 0)],[.cells [aV 2 1 7,.aA] 33,
  .cells [.aA,.aA] 33,
  .vec (.aK 1) 7 122 []],[],.lit 0⟩),([0,1,0,1,1,1],⟨2,[(1,.ptr 0 0),(2,.ptr 1 0),(43,aJ 0),(44,aJ 0)],[.cells [aV 2 1 7,.slice 3 0 0 (.exact 0)] 33,
  .cells [.aA,.aA] 33,
  .vec (.aK 1) 7 122 [],
  .cells [] 47 ],[],.lit 0⟩),([0,1,0,1,1,1],⟨4,[(1,.ptr 0 0),(2,.ptr 1 0),(43,aI 1),(44,aI 2)],[.cells [.aA,aV 2 3 8] 33,
  .cells [.aA,.aA] 33,
  .vec (.aK 3) 8 47 []],[],.lit 0⟩),([0,1,0,1,1,1],⟨1,[(1,.ptr 0 0),(2,.ptr 1 0),(43,aJ 0),(44,aJ 0)],[.cells [.aA,.aA] 33,
  .cells [.aA,.aA] 33 ],[],.lit 0⟩),([0,1,0,1,1,1],⟨1,[(1,.ptr 0 0),(2,.ptr 1 0),(43,aJ 0),(44,aJ 0)],[.cells [.aA,.slice 2 0 0 (.exact 0)] 33,
  .cells [.aA,.aA] 33,
  .cells [] 47 ],[],.lit 0⟩),([0,1,0,1,1,1],⟨4,[(1,.ptr 0 0),(2,.ptr 1 0),(43,aI 1),(44,aI 2)],[.cells [.slice 2 0 0 (.exact 0),aV 3 3 8] 33,
  .cells [.aA,.aA] 33,
  .cells [] 122,
  .vec (.aK 3) 8 47 []],[],.lit 0⟩),([0,1,0,1,1,1],⟨1,[(1,.ptr 0 0),(2,.ptr 1 0),(43,aJ 0),(44,aJ 0)],[.cells [.slice 2 0 0 (.exact 0),.aA] 33,
  .cells [.aA,.aA] 33,
  .cells [] 122 ],[],.lit 0⟩),([0,1,0,1,1,1],⟨1,[(1,.ptr 0 0),(2,.ptr 1 0),(43,aJ 0),(44,aJ 0)],[.cells [.slice 2 0 0 (.exact 0),.slice 3 0 0 (.exact 0)] 33,
  .cells [.aA,.aA] 33,
  .cells [] 122,
  .cells [] 47 ],[],.lit 0⟩),([0,1,0,1,1,1],⟨11,[(1,.ptr 0 0),(2,.ptr 1 0),(43,aI 1),(44,aI 2)],[.cells [aV 2 3 7,aV 3 4 8] 33,
  .cells [.aA,.aA] 33,
  .vec (.aK 3) 7 122 [],
  .vec (.aK 4) 8 47 [(.aK 0,[aI 5,aV 4 6 0,aU 7,aI 8,aI 9,aI 10])],
  .vec (.aK 6) 0 2 []],[],.lit 0⟩),([0,1,0,1,1,1],⟨11,[(1,.ptr 0 0),(2,.ptr 1 0),(43,aI 1),(44,aI 2)],[.cells [aV 2 3 7,aV 3 4 8] 33,
  .cells [.aA,.aA] 33,
  .vec (.aK 3) 7 122 [],
  .vec (.aK 4) 8 47 [(.aK 0,[aI 5,aE 6 0,aU 7,aI 8,aI 9,aI 10])]],[],.lit 0⟩),([0,1,0,1,1,1],⟨10,[(1,.ptr 0 0),(2,.ptr 1 0),(43,aI 1),(44,aI 2)],[.cells [.aA,aV 2 3 8] 33,
  .cells [.aA,.aA] 33,
  .vec (.aK 3) 8 47 [(.aK 0,[aI 4,aV 3 5 0,aU 6,aI 7,aI 8,aI 9])],
  .vec (.aK 5) 0 2 []],[],.lit 0⟩),([0,1,0,1,1,1],⟨10,[(1,.ptr 0 0),(2,.ptr 1 0),(43,aI 1),(44,aI 2)],[.cells [.aA,aV 2 3 8] 33,
  .cells [.aA,.aA] 33,
  .vec (.aK 3) 8 47 [(.aK 0,[aI 4,aE 5 0,aU 6,aI 7,aI 8,aI 9])]],[],.lit 0⟩),([0,1,0,1,1,1],⟨10,[(1,.ptr 0 0),(2,.ptr 1 0),(43,aI 1),(44,aI 2)],[.cells [.slice 2 0 0 (.exact 0),aV 3 3 8] 33,
  .cells [.aA,.aA] 33,
  .cells [] 122,
  .vec (.aK 3) 8 47 [(.aK 0,[aI 4,aV 4 5 0,aU 6,aI 7,aI 8,aI 9])],
  .vec (.aK 5) 0 2 []],[],.lit 0⟩),([0,1,0,1,1,1],⟨10,[(1,.ptr 0 0),(2,.ptr 1 0),(43,aI 1),(44,aI 2)],[.cells [.slice 2 0 0 (.exact 0),aV 3 3 8] 33,
  .cells [.aA,.aA] 33,
  .cells [] 122,
  .vec (.aK 3) 8 47 [(.aK 0,[aI 4,aE 5 0,aU 6,aI 7,aI 8,aI 9])]],[],.lit 0⟩)]⟩
def aEc:FE:=⟨100,7,[.agg [(.sl 3),(.sl 4)]],[.one .bool],none,[],[],[],0,[],[],
 [([0,1,0,1,1],⟨5,[(1,.ptr 0 0),(3,aI 0),(17,aI 1),(18,aI 2)],[.cells [aD 3 3,aD 4 4] 25 ],[],.lit 0⟩),([0,1,1,1,0,0,1,1,0,0,1,0,1,1],⟨6,[(1,.ptr 0 0),(3,aI 0),(4,aI 1),(5,aI 2),(17,aI 3),(18,aI 1)],[.cells [aD 4 3,aD 5 4] 25 ],[],.lit 0⟩),([0,1,0,0,1,0,0,1,1,1,0,0,1,1,0,0,1,0,1,1],⟨9,[(1,.ptr 0 0),(3,aI 0),(4,aI 1),(5,aI 2),(17,aI 3),(18,aI 1),(62,aD 4 6),(63,aI 5),(64,aI 6)],[.cells [aD 7 3,aD 8 4] 25 ],[],.lit 0⟩)]⟩
def aEb:FE:=⟨150,24,[.agg [(.int .u8),.str,(.int .i64),(.sl 6)],.one (.int .i64)],[.one (.int .i64)],none,[],[],[],0,[],[],
 [([0,1,0,1,1,1],⟨7,[(1,aI 0),(2,.ptr 0 0),(5,aI 1),(6,aI 2)],[.cells [aU 3,aS 4,aI 5,aD 6 6] 81 ],[],.lit 0⟩)]⟩
def aEa:FE:=⟨200,35,[.one (.sl 7),.one (.sl 7)],[.one .bool],none,[],[],[],0,[],[],
 [([0,1,0,1,1],⟨4,[(0,aD 0 7),(1,aD 1 7),(15,aI 2),(16,aI 3) ],[],[],.lit 0⟩),([0,1,1,1,1,0,0,1,1,0,0,1,0,1,1],⟨18,[(0,aD 0 7),(1,aD 1 7),(6,.ptr 0 0),(7,.ptr 1 0),(15,aI 2),(16,aI 3),(72,aI 4),(73,aI 5)],[.cells [aI 6,aI 7,aB 8,aI 9,aD 10 0,aD 11 0] 122,
  .cells [aI 12,aI 13,aB 14,aI 15,aD 16 0,aD 17 0] 122 ],[],.lit 0⟩)]⟩
def aD9:FE:=⟨250,64,[.one (.sl 0),.one (.sl 0)],[.one .bool],none,[],[],[],0,[],[],
 [([0,1,0,1,1],⟨3,[(0,aD 0 0),(1,aD 1 0),(5,aI 2) ],[],[],.lit 0⟩)]⟩
def aD8:FE:=⟨300,23,[.agg [(.sl 3),(.sl 4)]],[.one (.sl 7)],none,[],[],[],0,[],[],
 [([0,1,0,1,0,1,1],⟨2,[(3,.aA),(11,aD 0 3),(12,aI 1),(13,aJ 0) ],[],[],.lit 0⟩),([0,1,0,1,0,1,1],⟨4,[(3,aV 0 0 7),(11,aD 1 3),(12,aI 2),(13,aI 3)],[.vec (.aK 0) 7 122 []],[],.lit 0⟩)]⟩
def aD7:FE:=⟨350,33,[.agg [(.sl 3),(.sl 4)],.one (.sl 7)],[.one .bool],none,[],[],[],0,[],[],
 [([0,1,0,1,1],⟨5,[(2,.ptr 0 0),(18,aD 0 7),(19,aI 1),(20,aI 2)],[.cells [aD 3 3,aD 4 4] 25 ],[],.lit 0⟩)]⟩
def aD6:FE:=⟨400,61,[.agg [(.sl 3),(.sl 4)],.one (.sl 7),.one (.int .i64),.agg [(.int .u8),(.int .i64),(.int .i64),(.int .i64)]],[.one (.sl 7),.agg [(.int .i64),(.int .u8),(.int .i64),(.int .i64),(.int .i64)],.one (.int .u8)],none,[],[],[],0,[],[],
 []⟩
def aD5:FE:=⟨450,22,[.agg [(.sl 3),(.sl 4)]],[.one (.int .i64)],none,[],[],[],0,[],[],
 [([0,1,0,1,1],⟨4,[(1,.ptr 0 0),(3,.bool (.lit true)),(20,aD 0 3),(21,aI 1),(22,aI 2)],[.cells [aD 0 3,aD 3 4] 25 ],[],.lit 0⟩),([0,1,0,1,1],⟨4,[(1,.ptr 0 0),(3,.bool (.lit false)),(20,aD 0 3),(21,aI 1),(22,aI 2)],[.cells [aD 0 3,aD 3 4] 25 ],[],.lit 0⟩),([0,1,0,1,1,1],⟨4,[(1,.ptr 0 0),(3,.bool (.lit true)),(35,aD 0 4),(36,aI 1),(37,aI 2)],[.cells [aD 3 3,aD 0 4] 25 ],[],.lit 0⟩),([0,1,0,1,1,1],⟨4,[(1,.ptr 0 0),(3,.bool (.lit false)),(35,aD 0 4),(36,aI 1),(37,aI 2)],[.cells [aD 3 3,aD 0 4] 25 ],[],.lit 0⟩),([0,1,1,1,0,0,1,1,0,0,1,0,1,1,1],⟨8,[(1,.ptr 0 0),(3,.bool (.lit true)),(7,.ptr 1 0),(8,aI 0),(35,aD 1 4),(36,aI 2),(37,aI 3)],[.cells [aD 4 3,aD 1 4] 25,
  .cells [aS 5,aD 6 2,aD 7 5] 74 ],[],.lit 0⟩),([0,1,1,1,0,0,1,1,0,0,1,0,1,1,1],⟨8,[(1,.ptr 0 0),(3,.bool (.lit false)),(7,.ptr 1 0),(8,aI 0),(35,aD 1 4),(36,aI 2),(37,aI 3)],[.cells [aD 4 3,aD 1 4] 25,
  .cells [aS 5,aD 6 2,aD 7 5] 74 ],[],.lit 0⟩)]⟩
def aD4:FE:=⟨500,62,[.agg [(.int .u8),.str,(.int .i64),.str,(.int .i64)],.agg [(.int .i64),(.int .i64),.bool,(.int .i64),(.sl 0),(.sl 0)],.one (.int .i64)],[.one .bool],none,[],[],[],0,[],[],
 [([0,1,0,1,1,1,1,1,1],⟨15,[(2,aI 0),(3,.ptr 0 0),(4,.ptr 1 0),(10,.map 2),(98,aD 1 0),(99,aI 2),(100,aI 3)],[.cells [aU 4,aS 5,aI 6,aS 7,aI 8] 103,
  .cells [aI 9,aI 10,aB 11,aI 12,aD 1 0,aD 13 0] 122,
  .iW (.aK 14) 0 ],[],.lit 0⟩)]⟩
def aD3:FE:=⟨550,115,[.one (.sl 7)],[.one (.sl 7)],none,[],[],[],0,[],[],
 [([0,1,0,1,1],⟨3,[(0,aV 0 0 7),(7,aI 1),(8,aI 2)],[.vec (.aK 0) 7 122 []],[],.lit 0⟩),([0,1,0,1,1],⟨0,[(0,.aA),(7,aJ 0),(8,aJ 0) ],[],[],.lit 0⟩),([0,1,0,1,1],⟨0,[(0,.slice 0 0 0 (.exact 0)),(7,aJ 0),(8,aJ 0)],[.cells [] 122 ],[],.lit 0⟩)]⟩
def aD2:FE:=⟨600,116,[.one (.int .u8)],[.one (.int .u8)],none,[],[],[],0,[],[],
 []⟩
def aD1:FE:=⟨650,122,[.agg [(.int .u8),.str,(.int .i64),.str,(.int .i64)]],[.one (.int .i64),.one .bool],none,[],[],[],0,[],[],
 []⟩
def aD0:FE:=⟨700,44,[.agg [(.sl 3),(.sl 4)],.agg [(.int .u8),.str,(.int .i64),.str,(.int .i64)]],[.one .bool],none,[],[],[],0,[],[],
 []⟩
def aDZ:FE:=⟨750,45,[.agg [(.sl 3),(.sl 4)],.agg [.str,(.sl 2),(.sl 5)],.agg [(.int .u8),(.int .u8),(.int .i64),(.int .i64),(.int .i64),(.int .i64),(.sl 6)]],[.one .bool],none,[],[],[],0,[],[],
 []⟩
def aDY:FE:=⟨800,48,[.agg [(.int .u8),.str,(.int .i64),(.sl 6)],.one (.int .i64)],[.one .bool],none,[],[],[],0,[],[],
 []⟩
def aDX:FE:=⟨850,159,[.one (.sl 0),.one (.int .i64)],[.one (.int .i64)],none,[],[],[],0,[],[],
 [([0,1,0,1],⟨4,[(0,aD 0 0),(1,aI 1),(7,aI 2),(8,aI 3) ],[],[],.lit 0⟩)]⟩
def aDW:FE:=⟨900,125,[.one (.sl 0),.one (.int .i64)],[.one .bool],none,[],[],[],0,[],[],
 []⟩
def aDV:FE:=⟨950,99,[.one (.int .u8),.agg [(.int .u8),(.int .u8),(.int .i64),(.int .i64),(.int .i64),(.int .i64),(.sl 6)],.one .bool],[.one .bool],none,[],[],[],0,[],[],
 [([0,1,0,1,1],⟨9,[(0,aU 0),(2,.bool (.lit false)),(4,.ptr 0 0),(7,.ptr 1 0),(16,aI 1),(17,aJ 0)],[.cells [aU 2,aU 3,aI 4,aI 5,aI 6,aI 7,aD 8 6] 78,
  .cells [.int .u8 (.lit 1),aU 3,.str [97],.str [],aJ 0,.aA,.aA,.aA,aJ 0] 208 ],[],.lit 0⟩),([0,1,0,1,1],⟨9,[(0,aU 0),(2,.bool (.lit true)),(4,.ptr 0 0),(7,.ptr 1 0),(16,aI 1),(17,aJ 0)],[.cells [aU 2,aU 3,aI 4,aI 5,aI 6,aI 7,aD 8 6] 78,
  .cells [.int .u8 (.lit 1),aU 3,.str [97],.str [],aJ 0,.aA,.aA,.aA,aJ 0] 208 ],[],.lit 0⟩),([0,1,0,1,1],⟨11,[(0,aU 0),(2,.bool (.lit false)),(4,.ptr 0 0),(7,.ptr 1 0),(16,aI 1),(17,aI 2)],[.cells [aU 3,aU 4,aI 5,aI 6,aI 7,aI 8,aD 9 6] 78,
  .cells [.int .u8 (.lit 1),aU 4,.str [97],.str [],aJ 0,aV 2 10 6,.aA,.aA,aJ 0] 208,
  .vec (.aK 10) 6 81 []],[],.lit 0⟩),([0,1,0,1,1],⟨11,[(0,aU 0),(2,.bool (.lit true)),(4,.ptr 0 0),(7,.ptr 1 0),(16,aI 1),(17,aI 2)],[.cells [aU 3,aU 4,aI 5,aI 6,aI 7,aI 8,aD 9 6] 78,
  .cells [.int .u8 (.lit 1),aU 4,.str [97],.str [],aJ 0,aV 2 10 6,.aA,.aA,aJ 0] 208,
  .vec (.aK 10) 6 81 []],[],.lit 0⟩)]⟩
def aCb:FE:=⟨1000,137,[.one .str],[.one .bool],none,[],[],[],0,[],[],
 []⟩
def aCa:FE:=⟨1050,129,[.one .str,.one (.int .i64)],[.agg [(.int .u8),.str,(.int .i64),(.int .i64),(.int .i64),(.int .i64)],.agg [(.int .i64),(.int .i64)]],none,[],[],[],0,[],[],
 []⟩
def aB9:FE:=⟨1100,189,[.one .str],[.one (.int .i64),.one .bool],none,[],[],[],0,[],[],
 [([0,1,0,1,1],⟨0,[(4,aJ 0),(9,.slice 0 0 0 (.rest 1)),(10,aJ 0),(11,aJ 0)],[.cells [] 5 ],[],.lit 0⟩),([0,1,0,1,1],⟨4,[(4,aI 0),(9,aV 0 1 14),(10,aI 2),(11,aI 3)],[.vec (.aK 1) 14 5 []],[],.lit 0⟩)]⟩
def aB8:FE:=⟨1150,214,[.agg [(.int .u8),.str,(.int .i64),(.sl 6)]],[.one .bool],none,[],[],[],0,[],[],
 []⟩
def aB7:FE:=⟨1200,215,[.one (.int .u8)],[.one (.int .u8)],none,[],[],[],0,[],[],
 []⟩
def aB6:FE:=⟨1250,209,[.one (.int .u8)],[.one (.int .i64)],none,[],[],[],0,[],[],
 []⟩
def aB5:FE:=⟨1300,210,[.one (.int .u8)],[.one .bool],none,[],[],[],0,[],[],
 []⟩
def aB4:FE:=⟨1350,131,[.one (.int .u8)],[.one .bool],none,[],[],[],0,[],[],
 []⟩
def aB3:FE:=⟨1400,136,[.agg [(.int .u8),.str,(.int .i64),.str,(.int .i64)]],[.one .bool],none,[],[],[],0,[],[],
 []⟩
def aB2:FE:=⟨1450,6,[.agg [(.sl 3),(.sl 4)]],[.agg [(.sl 7),(.sl 8)],.one (.int .i64)],none,[],[],[],0,[],[],
 [([0,1,0,1,1,1],⟨3,[(2,.ptr 0 0),(5,.ptr 1 0),(18,aD 0 4),(19,aI 1),(20,aJ 0)],[.cells [.aA,.aA] 33,
  .cells [aD 2 7,.aA] 33 ],[],.lit 0⟩),([0,1,0,1,1,1],⟨5,[(2,.ptr 0 0),(5,.ptr 1 0),(18,aD 0 4),(19,aI 1),(20,aI 2)],[.cells [.aA,.aA] 33,
  .cells [aD 3 7,aV 2 4 8] 33,
  .vec (.aK 4) 8 47 []],[],.lit 0⟩)]⟩
def aB1:FE:=⟨1500,10,[.agg [(.sl 3),(.sl 4)],.agg [(.sl 7),(.sl 8)]],[.one .bool],none,[],[],[],0,[],[],
 [([0,1,0,1,1],⟨5,[(2,.ptr 0 0),(22,aD 0 8),(23,aI 1),(24,aI 2)],[.cells [aD 3 3,aD 4 4] 25 ],[],.lit 0⟩)]⟩
def aB0:FE:=⟨1550,28,[.agg [(.sl 3),(.sl 4)],.agg [(.sl 7),(.sl 8)],.one (.int .i64)],[.one .bool],none,[],[],[],0,[],[],
 []⟩
def aBZ:FE:=⟨1600,34,[.agg [(.sl 3),(.sl 4)],.agg [.str,(.sl 2),(.sl 5)],.agg [(.int .i64),(.sl 0),(.int .u8),(.int .i64),(.int .i64),(.int .i64)]],[.one .bool],none,[],[],[],0,[],[],
 []⟩
def aBY:FE:=⟨1650,29,[.agg [(.sl 3),(.sl 4)],.agg [(.sl 7),(.sl 8)],.one (.int .i64)],[.one .bool],none,[],[],[],0,[],[],
 []⟩
def aBX:FE:=⟨1700,20,[.agg [(.sl 3),(.sl 4)],.agg [(.sl 7),(.sl 8)],.one (.int .i64)],[.one .bool],none,[],[],[],0,[],[],
 []⟩
def aBW:FE:=⟨1750,30,[.agg [(.sl 3),(.sl 4)],.agg [(.sl 7),(.sl 8)],.one (.int .i64)],[.agg [(.int .u8),(.int .i64),(.int .i64),(.int .i64)],.one .bool],none,[],[],[],0,[],[],
 [([0,1,0,1,0,1,0,1,1,0,1,1,1,1],⟨12,[(6,.ptr 0 0),(8,.ptr 1 0),(10,.ptr 2 0),(55,aD 0 6),(56,aI 1),(57,aI 2)],[.cells [.int .u8 (.lit 0),aJ 0,aJ 0,aJ 0] 85,
  .cells [aI 3,aD 4 0,aU 5,aI 6,aI 7,aI 8] 47,
  .cells [aU 9,aI 10,aI 11,aI 8] 85 ],[],.lit 0⟩)]⟩
def aBV:FE:=⟨1850,9,[.agg [(.sl 3),(.sl 4)],.agg [(.sl 7),(.sl 8)],.one (.int .i64)],[.agg [(.sl 7),(.sl 8)],.agg [(.int .i64),(.int .u8),(.int .i64),(.int .i64),(.int .i64)],.one (.int .u8)],none,[],[],[],0,[],[],
 []⟩
def aBU:FE:=⟨1900,27,[.agg [(.sl 7),(.sl 8)]],[.agg [(.sl 7),(.sl 8)]],none,[],[],[],0,[],[],
 [([0,1,0,1,1],⟨4,[(1,.ptr 0 0),(2,.ptr 1 0),(16,aI 0),(17,aI 1)],[.cells [aV 2 2 7,aV 3 3 8] 33,
  .cells [.aA,.aA] 33,
  .vec (.aK 2) 7 122 [],
  .vec (.aK 3) 8 47 []],[],.lit 0⟩),([0,1,0,1,1],⟨3,[(1,.ptr 0 0),(2,.ptr 1 0),(16,aI 0),(17,aI 1)],[.cells [aV 2 2 7,.aA] 33,
  .cells [.aA,.aA] 33,
  .vec (.aK 2) 7 122 []],[],.lit 0⟩),([0,1,0,1,1],⟨3,[(1,.ptr 0 0),(2,.ptr 1 0),(16,aI 0),(17,aI 1)],[.cells [aV 2 2 7,.slice 3 0 0 (.exact 0)] 33,
  .cells [.aA,.aA] 33,
  .vec (.aK 2) 7 122 [],
  .cells [] 47 ],[],.lit 0⟩),([0,1,0,1,1],⟨1,[(1,.ptr 0 0),(2,.ptr 1 0),(16,aJ 0),(17,aJ 0)],[.cells [.aA,aV 2 0 8] 33,
  .cells [.aA,.aA] 33,
  .vec (.aK 0) 8 47 []],[],.lit 0⟩),([0,1,0,1,1],⟨0,[(1,.ptr 0 0),(2,.ptr 1 0),(16,aJ 0),(17,aJ 0)],[.cells [.aA,.aA] 33,
  .cells [.aA,.aA] 33 ],[],.lit 0⟩),([0,1,0,1,1],⟨0,[(1,.ptr 0 0),(2,.ptr 1 0),(16,aJ 0),(17,aJ 0)],[.cells [.aA,.slice 2 0 0 (.exact 0)] 33,
  .cells [.aA,.aA] 33,
  .cells [] 47 ],[],.lit 0⟩),([0,1,0,1,1],⟨1,[(1,.ptr 0 0),(2,.ptr 1 0),(16,aJ 0),(17,aJ 0)],[.cells [.slice 2 0 0 (.exact 0),aV 3 0 8] 33,
  .cells [.aA,.aA] 33,
  .cells [] 122,
  .vec (.aK 0) 8 47 []],[],.lit 0⟩),([0,1,0,1,1],⟨0,[(1,.ptr 0 0),(2,.ptr 1 0),(16,aJ 0),(17,aJ 0)],[.cells [.slice 2 0 0 (.exact 0),.aA] 33,
  .cells [.aA,.aA] 33,
  .cells [] 122 ],[],.lit 0⟩),([0,1,0,1,1],⟨0,[(1,.ptr 0 0),(2,.ptr 1 0),(16,aJ 0),(17,aJ 0)],[.cells [.slice 2 0 0 (.exact 0),.slice 3 0 0 (.exact 0)] 33,
  .cells [.aA,.aA] 33,
  .cells [] 122,
  .cells [] 47 ],[],.lit 0⟩),([0,1,0,1,1,1],⟨4,[(1,.ptr 0 0),(2,.ptr 1 0),(43,aI 0),(44,aI 1)],[.cells [aV 2 2 7,aV 3 3 8] 33,
  .cells [.aA,.aA] 33,
  .vec (.aK 2) 7 122 [],
  .vec (.aK 3) 8 47 []],[],.lit 0⟩),([0,1,0,1,1,1],⟨1,[(1,.ptr 0 0),(2,.ptr 1 0),(43,aJ 0),(44,aJ 0)],[.cells [aV 2 0 7,.aA] 33,
  .cells [.aA,.aA] 33,
  .vec (.aK 0) 7 122 []],[],.lit 0⟩),([0,1,0,1,1,1],⟨1,[(1,.ptr 0 0),(2,.ptr 1 0),(43,aJ 0),(44,aJ 0)],[.cells [aV 2 0 7,.slice 3 0 0 (.exact 0)] 33,
  .cells [.aA,.aA] 33,
  .vec (.aK 0) 7 122 [],
  .cells [] 47 ],[],.lit 0⟩),([0,1,0,1,1,1],⟨3,[(1,.ptr 0 0),(2,.ptr 1 0),(43,aI 0),(44,aI 1)],[.cells [.aA,aV 2 2 8] 33,
  .cells [.aA,.aA] 33,
  .vec (.aK 2) 8 47 []],[],.lit 0⟩),([0,1,0,1,1,1],⟨0,[(1,.ptr 0 0),(2,.ptr 1 0),(43,aJ 0),(44,aJ 0)],[.cells [.aA,.aA] 33,
  .cells [.aA,.aA] 33 ],[],.lit 0⟩),([0,1,0,1,1,1],⟨0,[(1,.ptr 0 0),(2,.ptr 1 0),(43,aJ 0),(44,aJ 0)],[.cells [.aA,.slice 2 0 0 (.exact 0)] 33,
  .cells [.aA,.aA] 33,
  .cells [] 47 ],[],.lit 0⟩),([0,1,0,1,1,1],⟨3,[(1,.ptr 0 0),(2,.ptr 1 0),(43,aI 0),(44,aI 1)],[.cells [.slice 2 0 0 (.exact 0),aV 3 2 8] 33,
  .cells [.aA,.aA] 33,
  .cells [] 122,
  .vec (.aK 2) 8 47 []],[],.lit 0⟩),([0,1,0,1,1,1],⟨0,[(1,.ptr 0 0),(2,.ptr 1 0),(43,aJ 0),(44,aJ 0)],[.cells [.slice 2 0 0 (.exact 0),.aA] 33,
  .cells [.aA,.aA] 33,
  .cells [] 122 ],[],.lit 0⟩),([0,1,0,1,1,1],⟨0,[(1,.ptr 0 0),(2,.ptr 1 0),(43,aJ 0),(44,aJ 0)],[.cells [.slice 2 0 0 (.exact 0),.slice 3 0 0 (.exact 0)] 33,
  .cells [.aA,.aA] 33,
  .cells [] 122,
  .cells [] 47 ],[],.lit 0⟩)]⟩
def aBT:FE:=⟨1950,55,[.agg [(.int .u8),.str,(.int .i64),(.sl 6)],.one (.sl 0)],[.one (.int .i64)],none,[],[],[],0,[],[],
 []⟩
def aBS:FE:=⟨2000,11,[.agg [(.sl 3),(.sl 4)],.agg [(.sl 7),(.sl 8)],.agg [(.int .i64),(.int .u8),(.int .i64),(.int .i64),(.int .i64)]],[.agg [(.sl 7),(.sl 8)],.one .bool],none,[],[],[],0,[],[],
 [([0,1,0,1,1,1,1],⟨11,[(3,.ptr 0 0),(4,.ptr 1 0),(5,.ptr 2 0),(6,.ptr 3 0),(8,.ptr 4 0),(9,aI 0),(10,aJ 0)],[.cells [aD 1 3,aD 2 4] 25,
  .cells [aD 3 7,aD 4 8] 33,
  .cells [aI 0,aU 5,aI 6,aI 7,aI 8] 29,
  .cells [.aA,.aA] 33,
  .cells [aD 9 7,aV 5 10 8] 33,
  .vec (.aK 10) 8 47 []],[],.lit 0⟩),([0,1,0,1,1,1,1],⟨10,[(3,.ptr 0 0),(4,.ptr 1 0),(5,.ptr 2 0),(6,.ptr 3 0),(8,.ptr 4 0),(9,aI 0),(10,aJ 0)],[.cells [aD 1 3,aD 2 4] 25,
  .cells [aD 3 7,aD 4 8] 33,
  .cells [aI 0,aU 5,aI 6,aI 7,aI 8] 29,
  .cells [.aA,.aA] 33,
  .cells [aD 9 7,.aA] 33 ],[],.lit 0⟩),([0,1,0,1,1,1,1],⟨10,[(3,.ptr 0 0),(4,.ptr 1 0),(5,.ptr 2 0),(6,.ptr 3 0),(8,.ptr 4 0),(9,aI 0),(10,aJ 0)],[.cells [aD 1 3,aD 2 4] 25,
  .cells [aD 3 7,aD 4 8] 33,
  .cells [aI 0,aU 5,aI 6,aI 7,aI 8] 29,
  .cells [.aA,.aA] 33,
  .cells [aD 9 7,.slice 5 0 0 (.exact 0)] 33,
  .cells [] 47 ],[],.lit 0⟩),([0,1,0,1,1,1,1],⟨18,[(3,.ptr 0 0),(4,.ptr 1 0),(5,.ptr 2 0),(6,.ptr 3 0),(8,.ptr 4 0),(9,aI 0),(10,aI 1)],[.cells [aD 2 3,aD 3 4] 25,
  .cells [aD 4 7,aD 5 8] 33,
  .cells [aI 0,aU 6,aI 7,aI 8,aI 9] 29,
  .cells [.aA,.aA] 33,
  .cells [aD 10 7,aV 5 11 8] 33,
  .vec (.aK 11) 8 47 [(.aK 0,[aI 12,aV 6 13 0,aU 14,aI 15,aI 16,aI 17])],
  .vec (.aK 13) 0 2 []],[],.lit 0⟩),([0,1,0,1,1,1,1],⟨18,[(3,.ptr 0 0),(4,.ptr 1 0),(5,.ptr 2 0),(6,.ptr 3 0),(8,.ptr 4 0),(9,aI 0),(10,aI 1)],[.cells [aD 2 3,aD 3 4] 25,
  .cells [aD 4 7,aD 5 8] 33,
  .cells [aI 0,aU 6,aI 7,aI 8,aI 9] 29,
  .cells [.aA,.aA] 33,
  .cells [aD 10 7,aV 5 11 8] 33,
  .vec (.aK 11) 8 47 [(.aK 0,[aI 12,aE 13 0,aU 14,aI 15,aI 16,aI 17])]],[],.lit 0⟩)]⟩
def aBR:FE:=⟨2050,12,[.agg [(.sl 7),(.sl 8)],.agg [(.sl 7),(.sl 8)]],[.one .bool],none,[],[],[],0,[],[],
 [([0,1,0,1,1],⟨6,[(2,.ptr 0 0),(3,.ptr 1 0),(26,aI 0),(27,aI 1)],[.cells [aD 2 7,aD 3 8] 33,
  .cells [aD 4 7,aD 5 8] 33 ],[],.lit 0⟩),([0,1,1,1,1,0,0,1,1,0,0,1,0,1,1],⟨20,[(2,.ptr 0 0),(3,.ptr 1 0),(6,.ptr 2 0),(7,.ptr 3 0),(26,aI 0),(27,aI 1),(84,aI 2),(85,aI 3)],[.cells [aD 4 7,aD 5 8] 33,
  .cells [aD 6 7,aD 7 8] 33,
  .cells [aI 8,aD 9 0,aU 10,aI 11,aI 12,aI 13] 47,
  .cells [aI 14,aD 15 0,aU 16,aI 17,aI 18,aI 19] 47 ],[],.lit 0⟩)]⟩
def anM:FE:=⟨3500,3,[.agg [(.sl 3),(.sl 4)],.one (.sl 0),.agg [(.int .i64),(.int .u8),(.int .i64),(.int .i64),(.int .i64)]],[.one .bool],none,[],[],[],0,[],[],
 [([0,1,0,1,1,1,1,1],⟨13,[(1,aD 0 0),(3,.ptr 0 0),(5,.ptr 1 0),(7,.ptr 2 0),(9,aV 3 1 16),(10,aV 4 2 17),(11,aI 3)],[.cells [aD 4 3,aD 5 4] 25,
  .cells [aI 6,aU 7,aI 8,aI 9,aI 10] 29,
  .cells [aD 11 7,aD 12 8] 33,
  .vec (.aK 1) 16 33 [],
  .vec (.aK 2) 17 4 []],[],.lit 0⟩),([0,1,0,1,1,1,0,0,1,0,0,1,0,1,1,1,1,1],⟨24,[(1,aD 0 0),(3,.ptr 0 0),(5,.ptr 1 0),(7,.ptr 2 0),(9,aV 3 1 16),(10,aV 4 2 17),(11,aI 3),(12,aI 4),(13,.ptr 5 0),(14,.ptr 6 0),(15,aU 5),(90,aI 6),(91,aI 7)],[.cells [aD 8 3,aD 9 4] 25,
  .cells [aI 10,aU 11,aI 12,aI 13,aI 14] 29,
  .cells [aD 15 7,aD 16 8] 33,
  .vec (.aK 1) 16 33 [],
  .vec (.aK 2) 17 4 [],
  .cells [aD 17 7,aD 18 8] 33,
  .cells [aI 19,aU 20,aI 21,aI 22,aI 23] 29 ],[],.lit 0⟩),([0,1,0,1,1,1,1,1,1,0,0,1,0,0,1,0,1,1,1,1,1],⟨19,[(1,aD 0 0),(3,.ptr 0 0),(5,.ptr 1 0),(7,.ptr 2 0),(9,aV 3 1 16),(10,aV 4 2 17),(11,aI 3),(12,aI 4),(13,.ptr 5 0),(15,aU 5),(204,aI 6),(205,aI 7)],[.cells [aD 8 3,aD 9 4] 25,
  .cells [aI 10,aU 11,aI 12,aI 13,aI 14] 29,
  .cells [aD 15 7,aD 16 8] 33,
  .vec (.aK 1) 16 33 [],
  .vec (.aK 2) 17 4 [],
  .cells [aD 17 7,aD 18 8] 33 ],[],.lit 0⟩)]⟩
def aBQ:FE:=⟨5000,46,[],[.one .bool],some (⟨4,[(0,aD 0 6),(1,.func (.func 47) [] [.ptr 0 0])],[.cells [aS 1,aD 2 2,aD 3 5] 74 ],[],.lit 0⟩,[.cells [aS 0,aD 1 2,aD 2 5] 74],3),[],[],[],0,[],[],
 []⟩
def aBP:FE:=⟨5050,101,[],[.one .bool],some (⟨7,[(0,.ptr 0 0),(1,.agg [aU 0,aS 1,aI 2,aD 3 6]),(2,aI 4)],[.cells [aI 5,aI 6] 160 ],[],.lit 0⟩,[.cells [aI 0,aI 1] 160],2),[],[],[],0,[],[],
 [([0,1,0,1,1,1],⟨9,[(0,.ptr 0 0),(2,aI 0),(4,.ptr 1 0),(27,aD 1 6),(28,aI 2),(29,aI 3)],[.cells [aI 4,aI 5] 160,
  .cells [aU 6,aS 7,aI 8,aD 1 6] 81 ],[],.lit 0⟩)]⟩
def aBO:FE:=⟨5100,199,[],[],some (⟨2,[(0,.ptr 0 0),(1,.aA),(2,aI 0)],[.cells [aI 1,.bool (.lit true),.bool (.lit false)] 179 ],[],.lit 0⟩,[.cells [aI 0,.bool (.lit true),.bool (.lit false)] 179],1),[],[],[],0,[],[],
 [([0,1],⟨2,[(0,.ptr 0 0),(2,aI 0),(8,.aA),(9,aJ 0),(10,aJ 0)],[.cells [aI 1,.bool (.lit true),.bool (.lit false)] 179 ],[],.lit 0⟩)]⟩
def aBN:FE:=⟨5150,216,[],[.one .bool],some (⟨2,[(0,.ptr 0 0),(1,.aA)],[.cells [.map 1,.map 2] 224,
 .map [(.str [97],aU 0,0)] 0,
 .iW (.aK 1) 1 ],[],.lit 0⟩,[.cells [.map 1,.map 2] 224,.map [(.str [97],aU 0,0)] 0,.iW (.aK 1) 1],2),[],[],[],0,[],[],
 [([0,1,0,1],⟨2,[(0,.ptr 0 0),(7,.aA),(8,aJ 0),(9,aJ 0)],[.cells [.map 1,.map 2] 224,
  .map [(.str [97],aU 0,0)] 0,
  .iW (.aK 1) 1 ],[],.lit 0⟩)]⟩
def aBM:FE:=⟨5200,216,[],[.one .bool],some (⟨2,[(0,.ptr 0 0),(1,.aA)],[.cells [.map 1,.map 2] 224,
 .map [(.str [98],.int .u8 (.lit 1),0),(.str [97],aU 0,0)] 0,
 .iW (.aK 1) 1 ],[],.lit 0⟩,[.cells [.map 1,.map 2] 224,.map [(.str [98],aU 0,0),(.str [97],aU 1,0)] 0,.iW (.aK 2) 1],3),[],[],[],0,[],[],
 [([0,1,0,1],⟨2,[(0,.ptr 0 0),(7,.aA),(8,aJ 0),(9,aJ 0)],[.cells [.map 1,.map 2] 224,
  .map [(.str [98],.int .u8 (.lit 1),0),(.str [97],aU 0,0)] 0,
  .iW (.aK 1) 1 ],[],.lit 0⟩)]⟩
def aBL:FE:=⟨5250,199,[],[],some (⟨3,[(0,.ptr 0 0),(1,aV 1 0 6),(2,aI 1)],[.cells [aI 2,.bool (.lit true),.bool (.lit false)] 179,
 .vec (.aK 0) 6 81 []],[],.lit 0⟩,[.cells [aI 0,.bool (.lit true),.bool (.lit false)] 179,.vec (.aK 1) 6 81 []],2),[],[],[],0,[],[],
 [([0,1],⟨5,[(0,.ptr 0 0),(2,aI 0),(8,aV 1 1 6),(9,aI 2),(10,aI 3)],[.cells [aI 4,.bool (.lit true),.bool (.lit false)] 179,
  .vec (.aK 1) 6 81 []],[],.lit 0⟩)]⟩
def aBK:FE:=⟨5300,216,[],[.one .bool],some (⟨4,[(0,.ptr 0 0),(1,.vS 1 (.aK 0) 6)],[.cells [.map 2,.map 3] 224,
 .vec (.aK 1) 6 81 [],
 .map [(.str [97],aU 2,0)] 0,
 .iW (.aK 3) 1 ],[],.lit 0⟩,[.cells [.map 2,.map 3] 224,.vec (.aK 0) 6 81 [],.map [(.str [97],aU 1,0)] 0,.iW (.aK 2) 1],3),[],[],[],0,[],[],
 [([0,1,0,1],⟨5,[(0,.ptr 0 0),(7,.vS 1 (.aK 0) 6),(8,aI 0),(9,aI 1)],[.cells [.map 2,.map 3] 224,
  .vec (.aK 2) 6 81 [],
  .map [(.str [97],aU 3,0)] 0,
  .iW (.aK 4) 1 ],[],.lit 0⟩)]⟩
def aBJ:FE:=⟨5350,216,[],[.one .bool],some (⟨4,[(0,.ptr 0 0),(1,.vS 1 (.aK 0) 6)],[.cells [.map 2,.map 3] 224,
 .vec (.aK 1) 6 81 [],
 .map [(.str [98],.int .u8 (.lit 1),0),(.str [97],aU 2,0)] 0,
 .iW (.aK 3) 1 ],[],.lit 0⟩,[.cells [.map 2,.map 3] 224,.vec (.aK 0) 6 81 [],.map [(.str [98],aU 1,0),(.str [97],aU 2,0)] 0,.iW (.aK 3) 1],4),[],[],[],0,[],[],
 [([0,1,0,1],⟨6,[(0,.ptr 0 0),(7,.vS 1 (.aK 0) 6),(8,aI 0),(9,aI 1)],[.cells [.map 2,.map 3] 224,
  .vec (.aK 2) 6 81 [],
  .map [(.str [98],aU 3,0),(.str [97],aU 4,0)] 0,
  .iW (.aK 5) 1 ],[],.lit 0⟩)]⟩
def aBI:FE:=⟨5400,100,[],[.one (.int .i64)],some (⟨4,[(0,aD 0 6),(1,.func (.func 47) [] [.ptr 0 0])],[.cells [aS 1,aD 2 2,aD 3 5] 74 ],[],.lit 0⟩,[.cells [aS 0,aD 1 2,aD 2 5] 74],3),[],[],[],0,[],[],
 [([0,1,0,1],⟨6,[(0,aD 0 6),(1,.func (.func 47) [] [.ptr 0 0]),(7,aI 1),(8,aI 2)],[.cells [aS 3,aD 4 2,aD 5 5] 74 ],[],.lit 0⟩)]⟩
def aBH:FE:=⟨5450,199,[],[],some (⟨3,[(0,.ptr 0 0),(1,aD 0 6),(2,aI 1)],[.cells [aI 2,.bool (.lit true),.bool (.lit false)] 179 ],[],.lit 0⟩,[.cells [aI 0,.bool (.lit true),.bool (.lit false)] 179],1),[],[],[],0,[],[],
 [([0,1],⟨5,[(0,.ptr 0 0),(2,aI 0),(8,aD 1 6),(9,aI 2),(10,aI 3)],[.cells [aI 4,.bool (.lit true),.bool (.lit false)] 179 ],[],.lit 0⟩)]⟩
def aBG:FE:=⟨5500,216,[],[.one .bool],some (⟨3,[(0,.ptr 0 0),(1,aD 0 6)],[.cells [.map 1,.map 2] 224,
 .map [(.str [97],aU 1,0)] 0,
 .iW (.aK 2) 1 ],[],.lit 0⟩,[.cells [.map 1,.map 2] 224,.map [(.str [97],aU 0,0)] 0,.iW (.aK 1) 1],2),[],[],[],0,[],[],
 [([0,1,0,1],⟨5,[(0,.ptr 0 0),(7,aD 0 6),(8,aI 1),(9,aI 2)],[.cells [.map 1,.map 2] 224,
  .map [(.str [97],aU 3,0)] 0,
  .iW (.aK 4) 1 ],[],.lit 0⟩)]⟩
def aBF:FE:=⟨5550,216,[],[.one .bool],some (⟨3,[(0,.ptr 0 0),(1,aD 0 6)],[.cells [.map 1,.map 2] 224,
 .map [(.str [98],.int .u8 (.lit 1),0),(.str [97],aU 1,0)] 0,
 .iW (.aK 2) 1 ],[],.lit 0⟩,[.cells [.map 1,.map 2] 224,.map [(.str [98],aU 0,0),(.str [97],aU 1,0)] 0,.iW (.aK 2) 1],3),[],[],[],0,[],[],
 [([0,1,0,1],⟨6,[(0,.ptr 0 0),(7,aD 0 6),(8,aI 1),(9,aI 2)],[.cells [.map 1,.map 2] 224,
  .map [(.str [98],aU 3,0),(.str [97],aU 4,0)] 0,
  .iW (.aK 5) 1 ],[],.lit 0⟩)]⟩
def aBE:FE:=⟨5600,216,[],[.one .bool],some (⟨4,[(0,.ptr 0 0),(1,aD 0 6)],[.cells [.map 1,.map 2] 224,
 .map [(.str [98],aU 1,0),(.str [97],aU 2,0)] 0,
 .iW (.aK 3) 1 ],[],.lit 0⟩,[.cells [.map 1,.map 2] 224,.map [(.str [98],aU 0,0),(.str [97],aU 1,0)] 0,.iW (.aK 2) 1],3),[],[],[],0,[],[],
 [([0,1,0,1],⟨6,[(0,.ptr 0 0),(7,aD 0 6),(8,aI 1),(9,aI 2)],[.cells [.map 1,.map 2] 224,
  .map [(.str [98],aU 3,0),(.str [97],aU 4,0)] 0,
  .iW (.aK 5) 1 ],[],.lit 0⟩)]⟩
def avN:FE:=⟨12000,174,[],[],some (⟨13,[(0,aV 0 0 0),(1,.func (.func 175) [] [.ptr 1 0])],[.vec (.aK 0) 0 3 [],
 .cells [.ptr 2 0] 189,
 .cells [aI 1,.qR 3 6 (.aK 2) 0,aI 3,aV 3 4 7,aU 5,aI 2,aI 6,aI 7] 191,
 .vec (.aK 4) 7 122 [(.aK 2,[aI 8,aI 9,aB 10,aI 11,aV 0 0 0,aV 4 12 0])],
 .vec (.aK 12) 0 2 []],[],.lit 0⟩,[.vec (.aK 0) 0 3 [],.cells [.ptr 2 0] 189,.cells [aI 1,.qR 3 6 (.aK 2) 0,aI 3,aV 3 4 7,aU 5,aI 2,aI 6,aI 7] 191,.vec (.aK 4) 7 122 [(.aK 2,[aI 8,aI 9,aB 10,aI 11,aV 0 0 0,aV 4 12 0])],.vec (.aK 12) 0 2 []],13),[⟨13,[(0,aV 0 0 0)],[.vec (.aK 0) 0 3 [],
 .cells [.ptr 2 0] 189,
 .cells [aI 1,.qR 3 6 (.aK 2) 0,aI 3,aV 3 4 7,aU 5,aI 2,aI 6,aI 7] 191,
 .vec (.aK 4) 7 122 [(.aK 2,[aI 8,aI 9,aB 10,aI 11,aV 0 0 0,aV 4 12 0])],
 .vec (.aK 12) 0 2 []],[],.lit 0⟩,⟨16,[(0,.AY 0 (.lit 0) (.aK 13) 0)],[.vec (.aK 14) 0 3 [],
 .cells [.ptr 2 0] 189,
 .cells [aI 1,.qR 3 6 (.aK 2) 0,aI 3,aV 3 4 7,aU 5,aI 2,aI 6,aI 7] 191,
 .vec (.aK 4) 7 122 [(.aK 2,[aI 8,aI 9,aB 10,aI 11,.vS 0 (.aK 15) 0,aV 4 12 0])],
 .vec (.aK 12) 0 2 []],[],.lit 0⟩],[],[],13,[],[],
 [([0,1,0,1,1,1],⟨16,[(0,aV 0 13 0),(1,.func (.func 175) [] [.ptr 1 0]),(5,aI 14),(6,aI 15)],[.vec (.aK 13) 0 3 [],
  .cells [.ptr 2 0] 189,
  .cells [aI 1,.qR 3 6 (.aK 2) 0,aI 3,aV 3 4 7,aU 5,aI 2,aI 6,aI 7] 191,
  .vec (.aK 4) 7 122 [(.aK 2,[aI 8,aI 9,aB 10,aI 11,aV 0 13 0,aV 4 12 0])],
  .vec (.aK 12) 0 2 []],[],.lit 0⟩)]⟩
def avM:FE:=⟨12050,204,[],[],some (⟨13,[(0,aV 0 0 0),(1,.func (.func 175) [] [.ptr 1 0])],[.vec (.aK 0) 0 3 [],
 .cells [.ptr 2 0] 189,
 .cells [aI 1,.qR 3 6 (.aK 2) 0,aI 3,aV 3 4 7,aU 5,aI 2,aI 6,aI 7] 191,
 .vec (.aK 4) 7 122 [(.aK 2,[aI 8,aI 9,aB 10,aI 11,aV 0 0 0,aV 4 12 0])],
 .vec (.aK 12) 0 2 []],[],.lit 0⟩,[.vec (.aK 0) 0 3 [],.cells [.ptr 2 0] 189,.cells [aI 1,.qR 3 6 (.aK 2) 0,aI 3,aV 3 4 7,aU 5,aI 2,aI 6,aI 7] 191,.vec (.aK 4) 7 122 [(.aK 2,[aI 8,aI 9,aB 10,aI 11,aV 0 0 0,aV 4 12 0])],.vec (.aK 12) 0 2 []],13),[⟨14,[(0,aI 13)],[.vec (.aK 0) 0 3 [],
 .cells [.ptr 2 0] 189,
 .cells [aI 1,.qR 3 6 (.aK 2) 0,aI 3,aV 3 4 7,aU 5,aI 2,aI 6,aI 7] 191,
 .vec (.aK 4) 7 122 [(.aK 2,[aI 8,aI 9,aB 10,aI 11,aV 0 0 0,aV 4 12 0])],
 .vec (.aK 12) 0 2 []],[],.lit 0⟩],[],[],13,[],[],
 [([0,1,0,1],⟨15,[(0,aV 0 0 0),(1,.func (.func 175) [] [.ptr 1 0]),(7,aI 13),(8,aI 14)],[.vec (.aK 0) 0 3 [],
  .cells [.ptr 2 0] 189,
  .cells [aI 1,.qR 3 6 (.aK 2) 0,aI 3,aV 3 4 7,aU 5,aI 2,aI 6,aI 7] 191,
  .vec (.aK 4) 7 122 [(.aK 2,[aI 8,aI 9,aB 10,aI 11,aV 0 0 0,aV 4 12 0])],
  .vec (.aK 12) 0 2 []],[],.lit 0⟩)]⟩
def avL:FE:=⟨12100,174,[],[],some (⟨13,[(0,aV 0 0 0),(1,.func (.func 175) [] [.ptr 1 0])],[.vec (.aK 0) 0 3 [],
 .cells [.ptr 2 0] 189,
 .cells [aI 1,.qR 3 6 (.aK 2) 0,aI 3,aV 3 4 7,aU 5,aI 2,aI 6,aI 7] 191,
 .vec (.aK 4) 7 122 [(.aK 2,[aI 8,aI 9,aB 10,aI 11,aV 0 0 0,aE 12 0])]],[],.lit 0⟩,[.vec (.aK 0) 0 3 [],.cells [.ptr 2 0] 189,.cells [aI 1,.qR 3 6 (.aK 2) 0,aI 3,aV 3 4 7,aU 5,aI 2,aI 6,aI 7] 191,.vec (.aK 4) 7 122 [(.aK 2,[aI 8,aI 9,aB 10,aI 11,aV 0 0 0,aE 12 0])]],13),[⟨13,[(0,aV 0 0 0)],[.vec (.aK 0) 0 3 [],
 .cells [.ptr 2 0] 189,
 .cells [aI 1,.qR 3 6 (.aK 2) 0,aI 3,aV 3 4 7,aU 5,aI 2,aI 6,aI 7] 191,
 .vec (.aK 4) 7 122 [(.aK 2,[aI 8,aI 9,aB 10,aI 11,aV 0 0 0,aE 12 0])]],[],.lit 0⟩,⟨16,[(0,.AY 0 (.lit 0) (.aK 13) 0)],[.vec (.aK 14) 0 3 [],
 .cells [.ptr 2 0] 189,
 .cells [aI 1,.qR 3 6 (.aK 2) 0,aI 3,aV 3 4 7,aU 5,aI 2,aI 6,aI 7] 191,
 .vec (.aK 4) 7 122 [(.aK 2,[aI 8,aI 9,aB 10,aI 11,.vS 0 (.aK 15) 0,aE 12 0])]],[],.lit 0⟩],[],[],13,[],[],
 [([0,1,0,1,1,1],⟨16,[(0,aV 0 13 0),(1,.func (.func 175) [] [.ptr 1 0]),(5,aI 14),(6,aI 15)],[.vec (.aK 13) 0 3 [],
  .cells [.ptr 2 0] 189,
  .cells [aI 1,.qR 3 6 (.aK 2) 0,aI 3,aV 3 4 7,aU 5,aI 2,aI 6,aI 7] 191,
  .vec (.aK 4) 7 122 [(.aK 2,[aI 8,aI 9,aB 10,aI 11,aV 0 13 0,aE 12 0])]],[],.lit 0⟩)]⟩
def avK:FE:=⟨12150,204,[],[],some (⟨13,[(0,aV 0 0 0),(1,.func (.func 175) [] [.ptr 1 0])],[.vec (.aK 0) 0 3 [],
 .cells [.ptr 2 0] 189,
 .cells [aI 1,.qR 3 6 (.aK 2) 0,aI 3,aV 3 4 7,aU 5,aI 2,aI 6,aI 7] 191,
 .vec (.aK 4) 7 122 [(.aK 2,[aI 8,aI 9,aB 10,aI 11,aV 0 0 0,aE 12 0])]],[],.lit 0⟩,[.vec (.aK 0) 0 3 [],.cells [.ptr 2 0] 189,.cells [aI 1,.qR 3 6 (.aK 2) 0,aI 3,aV 3 4 7,aU 5,aI 2,aI 6,aI 7] 191,.vec (.aK 4) 7 122 [(.aK 2,[aI 8,aI 9,aB 10,aI 11,aV 0 0 0,aE 12 0])]],13),[⟨14,[(0,aI 13)],[.vec (.aK 0) 0 3 [],
 .cells [.ptr 2 0] 189,
 .cells [aI 1,.qR 3 6 (.aK 2) 0,aI 3,aV 3 4 7,aU 5,aI 2,aI 6,aI 7] 191,
 .vec (.aK 4) 7 122 [(.aK 2,[aI 8,aI 9,aB 10,aI 11,aV 0 0 0,aE 12 0])]],[],.lit 0⟩],[],[],13,[],[],
 [([0,1,0,1],⟨15,[(0,aV 0 0 0),(1,.func (.func 175) [] [.ptr 1 0]),(7,aI 13),(8,aI 14)],[.vec (.aK 0) 0 3 [],
  .cells [.ptr 2 0] 189,
  .cells [aI 1,.qR 3 6 (.aK 2) 0,aI 3,aV 3 4 7,aU 5,aI 2,aI 6,aI 7] 191,
  .vec (.aK 4) 7 122 [(.aK 2,[aI 8,aI 9,aB 10,aI 11,aV 0 0 0,aE 12 0])]],[],.lit 0⟩)]⟩
def avJ:FE:=⟨12200,174,[],[],some (⟨13,[(0,aE 0 0),(1,.func (.func 175) [] [.ptr 0 0])],[.cells [.ptr 1 0] 189,
 .cells [aI 1,.qR 2 6 (.aK 2) 0,aI 3,aV 2 4 7,aU 5,aI 2,aI 6,aI 7] 191,
 .vec (.aK 4) 7 122 [(.aK 2,[aI 8,aI 9,aB 10,aI 11,aE 0 0,aV 3 12 0])],
 .vec (.aK 12) 0 2 []],[],.lit 0⟩,[.cells [.ptr 1 0] 189,.cells [aI 1,.qR 2 6 (.aK 2) 0,aI 3,aV 2 4 7,aU 5,aI 2,aI 6,aI 7] 191,.vec (.aK 4) 7 122 [(.aK 2,[aI 8,aI 9,aB 10,aI 11,aE 0 0,aV 3 12 0])],.vec (.aK 12) 0 2 []],13),[⟨13,[(0,aE 0 0)],[.cells [.ptr 1 0] 189,
 .cells [aI 1,.qR 2 6 (.aK 2) 0,aI 3,aV 2 4 7,aU 5,aI 2,aI 6,aI 7] 191,
 .vec (.aK 4) 7 122 [(.aK 2,[aI 8,aI 9,aB 10,aI 11,aE 0 0,aV 3 12 0])],
 .vec (.aK 12) 0 2 []],[],.lit 0⟩],[],[],13,[],[],
 []⟩
def avI:FE:=⟨12250,204,[],[],some (⟨13,[(0,aE 0 0),(1,.func (.func 175) [] [.ptr 0 0])],[.cells [.ptr 1 0] 189,
 .cells [aI 1,.qR 2 6 (.aK 2) 0,aI 3,aV 2 4 7,aU 5,aI 2,aI 6,aI 7] 191,
 .vec (.aK 4) 7 122 [(.aK 2,[aI 8,aI 9,aB 10,aI 11,aE 0 0,aV 3 12 0])],
 .vec (.aK 12) 0 2 []],[],.lit 0⟩,[.cells [.ptr 1 0] 189,.cells [aI 1,.qR 2 6 (.aK 2) 0,aI 3,aV 2 4 7,aU 5,aI 2,aI 6,aI 7] 191,.vec (.aK 4) 7 122 [(.aK 2,[aI 8,aI 9,aB 10,aI 11,aE 0 0,aV 3 12 0])],.vec (.aK 12) 0 2 []],13),[⟨13,[(0,aJ (-1))],[.cells [.ptr 1 0] 189,
 .cells [aI 1,.qR 2 6 (.aK 2) 0,aI 3,aV 2 4 7,aU 5,aI 2,aI 6,aI 7] 191,
 .vec (.aK 4) 7 122 [(.aK 2,[aI 8,aI 9,aB 10,aI 11,aE 0 0,aV 3 12 0])],
 .vec (.aK 12) 0 2 []],[],.lit 0⟩],[],[],13,[],[],
 [([0,1,0,1],⟨13,[(0,aE 0 0),(1,.func (.func 175) [] [.ptr 0 0]),(7,aJ 0),(8,aJ 0)],[.cells [.ptr 1 0] 189,
  .cells [aI 1,.qR 2 6 (.aK 2) 0,aI 3,aV 2 4 7,aU 5,aI 2,aI 6,aI 7] 191,
  .vec (.aK 4) 7 122 [(.aK 2,[aI 8,aI 9,aB 10,aI 11,aE 0 0,aV 3 12 0])],
  .vec (.aK 12) 0 2 []],[],.lit 0⟩)]⟩
def avH:FE:=⟨12300,174,[],[],some (⟨13,[(0,aE 0 0),(1,.func (.func 175) [] [.ptr 0 0])],[.cells [.ptr 1 0] 189,
 .cells [aI 1,.qR 2 6 (.aK 2) 0,aI 3,aV 2 4 7,aU 5,aI 2,aI 6,aI 7] 191,
 .vec (.aK 4) 7 122 [(.aK 2,[aI 8,aI 9,aB 10,aI 11,aE 0 0,aE 12 0])]],[],.lit 0⟩,[.cells [.ptr 1 0] 189,.cells [aI 1,.qR 2 6 (.aK 2) 0,aI 3,aV 2 4 7,aU 5,aI 2,aI 6,aI 7] 191,.vec (.aK 4) 7 122 [(.aK 2,[aI 8,aI 9,aB 10,aI 11,aE 0 0,aE 12 0])]],13),[⟨13,[(0,aE 0 0)],[.cells [.ptr 1 0] 189,
 .cells [aI 1,.qR 2 6 (.aK 2) 0,aI 3,aV 2 4 7,aU 5,aI 2,aI 6,aI 7] 191,
 .vec (.aK 4) 7 122 [(.aK 2,[aI 8,aI 9,aB 10,aI 11,aE 0 0,aE 12 0])]],[],.lit 0⟩],[],[],13,[],[],
 []⟩
def avG:FE:=⟨12350,204,[],[],some (⟨13,[(0,aE 0 0),(1,.func (.func 175) [] [.ptr 0 0])],[.cells [.ptr 1 0] 189,
 .cells [aI 1,.qR 2 6 (.aK 2) 0,aI 3,aV 2 4 7,aU 5,aI 2,aI 6,aI 7] 191,
 .vec (.aK 4) 7 122 [(.aK 2,[aI 8,aI 9,aB 10,aI 11,aE 0 0,aE 12 0])]],[],.lit 0⟩,[.cells [.ptr 1 0] 189,.cells [aI 1,.qR 2 6 (.aK 2) 0,aI 3,aV 2 4 7,aU 5,aI 2,aI 6,aI 7] 191,.vec (.aK 4) 7 122 [(.aK 2,[aI 8,aI 9,aB 10,aI 11,aE 0 0,aE 12 0])]],13),[⟨13,[(0,aJ (-1))],[.cells [.ptr 1 0] 189,
 .cells [aI 1,.qR 2 6 (.aK 2) 0,aI 3,aV 2 4 7,aU 5,aI 2,aI 6,aI 7] 191,
 .vec (.aK 4) 7 122 [(.aK 2,[aI 8,aI 9,aB 10,aI 11,aE 0 0,aE 12 0])]],[],.lit 0⟩],[],[],13,[],[],
 [([0,1,0,1],⟨13,[(0,aE 0 0),(1,.func (.func 175) [] [.ptr 0 0]),(7,aJ 0),(8,aJ 0)],[.cells [.ptr 1 0] 189,
  .cells [aI 1,.qR 2 6 (.aK 2) 0,aI 3,aV 2 4 7,aU 5,aI 2,aI 6,aI 7] 191,
  .vec (.aK 4) 7 122 [(.aK 2,[aI 8,aI 9,aB 10,aI 11,aE 0 0,aE 12 0])]],[],.lit 0⟩)]⟩
def avF:FE:=⟨12400,127,[],[],some (⟨7,[(0,.agg [.slice 0 0 1 (.exact 1),.slice 1 0 1 (.exact 1)])],[.cells [aU 0,.str [97],aI 1,.str [],aI 2] 103,
 .cells [.str [97],.slice 2 0 1 (.exact 1),aI 3] 173,
 .cells [.int .u8 (.lit 1),aU 4,.str [97],.str [],aI 5,.aA,.aA,.aA,aI 6] 208 ],[],.lit 0⟩,[.cells [aU 0,.str [97],aI 1,.str [],aI 2] 103,.cells [.str [97],.slice 2 0 1 (.exact 1),aI 3] 173,.cells [.int .u8 (.lit 1),aU 4,.str [97],.str [],aI 5,.aA,.aA,.aA,aI 6] 208],7),[⟨7,[(0,.bool (.lit false))],[.cells [aU 0,.str [97],aI 1,.str [],aI 2] 103,
 .cells [.str [97],.slice 2 0 1 (.exact 1),aI 3] 173,
 .cells [.int .u8 (.lit 1),aU 4,.str [97],.str [],aI 5,.aA,.aA,.aA,aI 6] 208 ],[],.lit 0⟩,⟨7,[(0,.bool (.lit true))],[.cells [aU 0,.str [97],aI 1,.str [],aI 2] 103,
 .cells [.str [97],.slice 2 0 1 (.exact 1),aI 3] 173,
 .cells [.int .u8 (.lit 1),aU 4,.str [97],.str [],aI 5,.aA,.aA,.aA,aI 6] 208 ],[],.lit 0⟩],[],[],7,[],[],
 []⟩
def avE:FE:=⟨12450,127,[],[],some (⟨9,[(0,.agg [.slice 0 0 2 (.exact 2),.slice 1 0 1 (.exact 1)])],[.cells [.int .u8 (.lit 1),.str [98],aI 0,.str [],aI 1,aU 2,.str [97],aI 3,.str [98],aI 4] 103,
 .cells [.str [97],.slice 2 0 1 (.exact 1),aI 5] 173,
 .cells [.int .u8 (.lit 1),aU 6,.str [97],.str [],aI 7,.aA,.aA,.aA,aI 8] 208 ],[],.lit 0⟩,[.cells [.int .u8 (.lit 1),.str [98],aI 0,.str [],aI 1,aU 2,.str [97],aI 3,.str [98],aI 4] 103,.cells [.str [97],.slice 2 0 1 (.exact 1),aI 5] 173,.cells [.int .u8 (.lit 1),aU 6,.str [97],.str [],aI 7,.aA,.aA,.aA,aI 8] 208],9),[⟨9,[(0,.bool (.lit false))],[.cells [.int .u8 (.lit 1),.str [98],aI 0,.str [],aI 1,aU 2,.str [97],aI 3,.str [98],aI 4] 103,
 .cells [.str [97],.slice 2 0 1 (.exact 1),aI 5] 173,
 .cells [.int .u8 (.lit 1),aU 6,.str [97],.str [],aI 7,.aA,.aA,.aA,aI 8] 208 ],[],.lit 0⟩,⟨9,[(0,.bool (.lit true))],[.cells [.int .u8 (.lit 1),.str [98],aI 0,.str [],aI 1,aU 2,.str [97],aI 3,.str [98],aI 4] 103,
 .cells [.str [97],.slice 2 0 1 (.exact 1),aI 5] 173,
 .cells [.int .u8 (.lit 1),aU 6,.str [97],.str [],aI 7,.aA,.aA,.aA,aI 8] 208 ],[],.lit 0⟩],[],[],9,[],[],
 []⟩
def avD:FE:=⟨12500,127,[],[],some (⟨7,[(0,.agg [.slice 0 0 1 (.exact 1),.slice 1 0 1 (.exact 1)])],[.cells [aU 0,.str [97],aI 1,.str [],aI 2] 103,
 .cells [.str [97],.slice 2 0 1 (.exact 1),aI 3] 173,
 .cells [.int .u8 (.lit 1),aU 4,.str [97],.str [97],aI 5,.aA,.aA,.aA,aI 6] 208 ],[],.lit 0⟩,[.cells [aU 0,.str [97],aI 1,.str [],aI 2] 103,.cells [.str [97],.slice 2 0 1 (.exact 1),aI 3] 173,.cells [.int .u8 (.lit 1),aU 4,.str [97],.str [97],aI 5,.aA,.aA,.aA,aI 6] 208],7),[⟨7,[(0,.bool (.lit false))],[.cells [aU 0,.str [97],aI 1,.str [],aI 2] 103,
 .cells [.str [97],.slice 2 0 1 (.exact 1),aI 3] 173,
 .cells [.int .u8 (.lit 1),aU 4,.str [97],.str [97],aI 5,.aA,.aA,.aA,aI 6] 208 ],[],.lit 0⟩,⟨7,[(0,.bool (.lit true))],[.cells [aU 0,.str [97],aI 1,.str [],aI 2] 103,
 .cells [.str [97],.slice 2 0 1 (.exact 1),aI 3] 173,
 .cells [.int .u8 (.lit 1),aU 4,.str [97],.str [97],aI 5,.aA,.aA,.aA,aI 6] 208 ],[],.lit 0⟩],[],[],7,[],[],
 []⟩
def avC:FE:=⟨12550,127,[],[],some (⟨9,[(0,.agg [.slice 0 0 2 (.exact 2),.slice 1 0 1 (.exact 1)])],[.cells [.int .u8 (.lit 1),.str [98],aI 0,.str [],aI 1,aU 2,.str [97],aI 3,.str [98],aI 4] 103,
 .cells [.str [97],.slice 2 0 1 (.exact 1),aI 5] 173,
 .cells [.int .u8 (.lit 1),aU 6,.str [97],.str [97],aI 7,.aA,.aA,.aA,aI 8] 208 ],[],.lit 0⟩,[.cells [.int .u8 (.lit 1),.str [98],aI 0,.str [],aI 1,aU 2,.str [97],aI 3,.str [98],aI 4] 103,.cells [.str [97],.slice 2 0 1 (.exact 1),aI 5] 173,.cells [.int .u8 (.lit 1),aU 6,.str [97],.str [97],aI 7,.aA,.aA,.aA,aI 8] 208],9),[⟨9,[(0,.bool (.lit false))],[.cells [.int .u8 (.lit 1),.str [98],aI 0,.str [],aI 1,aU 2,.str [97],aI 3,.str [98],aI 4] 103,
 .cells [.str [97],.slice 2 0 1 (.exact 1),aI 5] 173,
 .cells [.int .u8 (.lit 1),aU 6,.str [97],.str [97],aI 7,.aA,.aA,.aA,aI 8] 208 ],[],.lit 0⟩,⟨9,[(0,.bool (.lit true))],[.cells [.int .u8 (.lit 1),.str [98],aI 0,.str [],aI 1,aU 2,.str [97],aI 3,.str [98],aI 4] 103,
 .cells [.str [97],.slice 2 0 1 (.exact 1),aI 5] 173,
 .cells [.int .u8 (.lit 1),aU 6,.str [97],.str [97],aI 7,.aA,.aA,.aA,aI 8] 208 ],[],.lit 0⟩],[],[],9,[],[],
 []⟩
def avA:FE:=⟨12600,127,[],[],some (⟨8,[(0,.agg [.slice 0 0 1 (.exact 1),.slice 1 0 1 (.exact 1)])],[.cells [aU 0,.str [97],aI 1,.str [],aI 2] 103,
 .cells [.str [97],.slice 2 0 1 (.exact 1),aI 3] 173,
 .cells [.int .u8 (.lit 1),aU 4,.str [97],.str [],aI 5,aV 3 6 6,.aA,.aA,aI 7] 208,
 .vec (.aK 6) 6 81 []],[],.lit 0⟩,[.cells [aU 0,.str [97],aI 1,.str [],aI 2] 103,.cells [.str [97],.slice 2 0 1 (.exact 1),aI 3] 173,.cells [.int .u8 (.lit 1),aU 4,.str [97],.str [],aI 5,aV 3 6 6,.aA,.aA,aI 7] 208,.vec (.aK 6) 6 81 []],8),[⟨8,[(0,.bool (.lit false))],[.cells [aU 0,.str [97],aI 1,.str [],aI 2] 103,
 .cells [.str [97],.slice 2 0 1 (.exact 1),aI 3] 173,
 .cells [.int .u8 (.lit 1),aU 4,.str [97],.str [],aI 5,aV 3 6 6,.aA,.aA,aI 7] 208,
 .vec (.aK 6) 6 81 []],[],.lit 0⟩,⟨10,[(0,.bool (.lit true))],[.cells [aU 0,.str [97],aI 1,.str [],aI 2] 103,
 .cells [.str [97],.slice 2 0 1 (.exact 1),aI 3] 173,
 .cells [.int .u8 (.lit 1),aU 4,.str [97],.str [],aI 5,.vS 3 (.aK 8) 6,.aA,.aA,aI 7] 208,
 .vec (.aK 9) 6 81 []],[],.lit 0⟩],[],[],8,[],[],
 []⟩
def auZ:FE:=⟨12650,127,[],[],some (⟨10,[(0,.agg [.slice 0 0 2 (.exact 2),.slice 1 0 1 (.exact 1)])],[.cells [.int .u8 (.lit 1),.str [98],aI 0,.str [],aI 1,aU 2,.str [97],aI 3,.str [98],aI 4] 103,
 .cells [.str [97],.slice 2 0 1 (.exact 1),aI 5] 173,
 .cells [.int .u8 (.lit 1),aU 6,.str [97],.str [],aI 7,aV 3 8 6,.aA,.aA,aI 9] 208,
 .vec (.aK 8) 6 81 []],[],.lit 0⟩,[.cells [.int .u8 (.lit 1),.str [98],aI 0,.str [],aI 1,aU 2,.str [97],aI 3,.str [98],aI 4] 103,.cells [.str [97],.slice 2 0 1 (.exact 1),aI 5] 173,.cells [.int .u8 (.lit 1),aU 6,.str [97],.str [],aI 7,aV 3 8 6,.aA,.aA,aI 9] 208,.vec (.aK 8) 6 81 []],10),[⟨10,[(0,.bool (.lit false))],[.cells [.int .u8 (.lit 1),.str [98],aI 0,.str [],aI 1,aU 2,.str [97],aI 3,.str [98],aI 4] 103,
 .cells [.str [97],.slice 2 0 1 (.exact 1),aI 5] 173,
 .cells [.int .u8 (.lit 1),aU 6,.str [97],.str [],aI 7,aV 3 8 6,.aA,.aA,aI 9] 208,
 .vec (.aK 8) 6 81 []],[],.lit 0⟩,⟨12,[(0,.bool (.lit true))],[.cells [.int .u8 (.lit 1),.str [98],aI 0,.str [],aI 1,aU 2,.str [97],aI 3,.str [98],aI 4] 103,
 .cells [.str [97],.slice 2 0 1 (.exact 1),aI 5] 173,
 .cells [.int .u8 (.lit 1),aU 6,.str [97],.str [],aI 7,.vS 3 (.aK 10) 6,.aA,.aA,aI 9] 208,
 .vec (.aK 11) 6 81 []],[],.lit 0⟩],[],[],10,[],[],
 []⟩
def auY:FE:=⟨12700,127,[],[],some (⟨8,[(0,.agg [.slice 0 0 1 (.exact 1),.slice 1 0 1 (.exact 1)])],[.cells [aU 0,.str [97],aI 1,.str [],aI 2] 103,
 .cells [.str [97],.slice 2 0 1 (.exact 1),aI 3] 173,
 .cells [.int .u8 (.lit 1),aU 4,.str [97],.str [97],aI 5,aV 3 6 6,.aA,.aA,aI 7] 208,
 .vec (.aK 6) 6 81 []],[],.lit 0⟩,[.cells [aU 0,.str [97],aI 1,.str [],aI 2] 103,.cells [.str [97],.slice 2 0 1 (.exact 1),aI 3] 173,.cells [.int .u8 (.lit 1),aU 4,.str [97],.str [97],aI 5,aV 3 6 6,.aA,.aA,aI 7] 208,.vec (.aK 6) 6 81 []],8),[⟨8,[(0,.bool (.lit false))],[.cells [aU 0,.str [97],aI 1,.str [],aI 2] 103,
 .cells [.str [97],.slice 2 0 1 (.exact 1),aI 3] 173,
 .cells [.int .u8 (.lit 1),aU 4,.str [97],.str [97],aI 5,aV 3 6 6,.aA,.aA,aI 7] 208,
 .vec (.aK 6) 6 81 []],[],.lit 0⟩,⟨10,[(0,.bool (.lit true))],[.cells [aU 0,.str [97],aI 1,.str [],aI 2] 103,
 .cells [.str [97],.slice 2 0 1 (.exact 1),aI 3] 173,
 .cells [.int .u8 (.lit 1),aU 4,.str [97],.str [97],aI 5,.vS 3 (.aK 8) 6,.aA,.aA,aI 7] 208,
 .vec (.aK 9) 6 81 []],[],.lit 0⟩],[],[],8,[],[],
 []⟩
def auX:FE:=⟨12750,127,[],[],some (⟨10,[(0,.agg [.slice 0 0 2 (.exact 2),.slice 1 0 1 (.exact 1)])],[.cells [.int .u8 (.lit 1),.str [98],aI 0,.str [],aI 1,aU 2,.str [97],aI 3,.str [98],aI 4] 103,
 .cells [.str [97],.slice 2 0 1 (.exact 1),aI 5] 173,
 .cells [.int .u8 (.lit 1),aU 6,.str [97],.str [97],aI 7,aV 3 8 6,.aA,.aA,aI 9] 208,
 .vec (.aK 8) 6 81 []],[],.lit 0⟩,[.cells [.int .u8 (.lit 1),.str [98],aI 0,.str [],aI 1,aU 2,.str [97],aI 3,.str [98],aI 4] 103,.cells [.str [97],.slice 2 0 1 (.exact 1),aI 5] 173,.cells [.int .u8 (.lit 1),aU 6,.str [97],.str [97],aI 7,aV 3 8 6,.aA,.aA,aI 9] 208,.vec (.aK 8) 6 81 []],10),[⟨10,[(0,.bool (.lit false))],[.cells [.int .u8 (.lit 1),.str [98],aI 0,.str [],aI 1,aU 2,.str [97],aI 3,.str [98],aI 4] 103,
 .cells [.str [97],.slice 2 0 1 (.exact 1),aI 5] 173,
 .cells [.int .u8 (.lit 1),aU 6,.str [97],.str [97],aI 7,aV 3 8 6,.aA,.aA,aI 9] 208,
 .vec (.aK 8) 6 81 []],[],.lit 0⟩,⟨12,[(0,.bool (.lit true))],[.cells [.int .u8 (.lit 1),.str [98],aI 0,.str [],aI 1,aU 2,.str [97],aI 3,.str [98],aI 4] 103,
 .cells [.str [97],.slice 2 0 1 (.exact 1),aI 5] 173,
 .cells [.int .u8 (.lit 1),aU 6,.str [97],.str [97],aI 7,.vS 3 (.aK 10) 6,.aA,.aA,aI 9] 208,
 .vec (.aK 11) 6 81 []],[],.lit 0⟩],[],[],10,[],[],
 []⟩
def auW:FE:=⟨12800,186,[],[],some (⟨2,[(0,.ptr 0 0),(1,aS 0),(2,aI 1)],[.cells (u8L cT0) 245 ],[],.lit 0⟩,[.cells (u8L cT0) 245],2),[⟨3,[(0,aI 2)],[.cells (u8L cT0) 245 ],[],.lit 0⟩],[],[],2,[],[],
 [([0,0,1,0,1],⟨3,[(0,.ptr 0 0),(1,aS 0),(2,aI 2)],[.cells (u8L cT0) 245 ],[],.lit 0⟩)]⟩
def auV:FE:=⟨12850,188,[],[],some (⟨2,[(0,.ptr 0 0),(1,aS 0),(2,aI 1)],[.cells (u8L cT0) 245 ],[],.lit 0⟩,[.cells (u8L cT0) 245],2),[⟨3,[(0,aI 2)],[.cells (u8L cT0) 245 ],[],.lit 0⟩],[],[],2,[],[],
 [([0,0,1,1,1,1],⟨4,[(0,.ptr 0 0),(1,aS 0),(7,aU 2),(8,aI 3)],[.cells (u8L cT0) 245 ],[],.lit 0⟩)]⟩
def auT:FE:=⟨14000,31,[],[],some (⟨11,[(0,.agg [aD 0 3,aD 1 4]),(1,.ptr 0 0),(2,aI 2)],[.cells [aD 3 7,aV 1 4 8] 33,
 .vec (.aK 4) 8 47 [(.aK 2,[aI 5,aV 2 6 0,aU 7,aI 8,aI 9,aI 10])],
 .vec (.aK 6) 0 2 []],[],.lit 0⟩,[.cells [aD 3 7,aV 1 4 8] 33,.vec (.aK 4) 8 47 [(.aK 2,[aI 5,aV 2 6 0,aU 7,aI 8,aI 9,aI 10])],.vec (.aK 6) 0 2 []],11),[⟨13,[],[.cells [aD 3 7,aV 1 4 8] 33,
 .vec (.aK 4) 8 47 [(.aK 2,[aI 11,aV 2 12 0,aU 7,aI 8,aI 9,aI 10])],
 .vec (.aK 12) 0 2 []],[],.lit 0⟩],[],[],11,[],[],
 []⟩
def auR:FE:=⟨14500,32,[],[],some (⟨15,[(0,.agg [aD 0 3,aD 1 4]),(1,.ptr 0 0),(2,aI 2),(3,.agg [aU 3,aI 4,aI 5,aI 6])],[.cells [aD 7 7,aV 1 8 8] 33,
 .vec (.aK 8) 8 47 [(.aK 2,[aI 9,aV 2 10 0,aU 11,aI 12,aI 13,aI 14])],
 .vec (.aK 10) 0 2 []],[],.lit 0⟩,[.cells [aD 7 7,aV 1 8 8] 33,.vec (.aK 8) 8 47 [(.aK 2,[aI 9,aV 2 10 0,aU 11,aI 12,aI 13,aI 14])],.vec (.aK 10) 0 2 []],15),[⟨28,[(0,.agg [aI 15,aU 16,aI 17,aI 18,aI 19]),(1,aU 20)],[.cells [aD 21 7,aV 1 8 8] 33,
 .vec (.aK 8) 8 47 [(.aK 2,[aI 22,aV 2 23 0,aU 24,aI 25,aI 26,aI 27])],
 .vec (.aK 23) 0 2 []],[],.lit 0⟩],[],[],15,[],[],
 []⟩
def auS:FE:=⟨14050,31,[],[],some (⟨11,[(0,.agg [aD 0 3,aD 1 4]),(1,.ptr 0 0),(2,aI 2)],[.cells [aD 3 7,aV 1 4 8] 33,
 .vec (.aK 4) 8 47 [(.aK 2,[aI 5,aE 6 0,aU 7,aI 8,aI 9,aI 10])]],[],.lit 0⟩,[.cells [aD 3 7,aV 1 4 8] 33,.vec (.aK 4) 8 47 [(.aK 2,[aI 5,aE 6 0,aU 7,aI 8,aI 9,aI 10])]],11),[⟨12,[],[.cells [aD 3 7,aV 1 4 8] 33,
 .vec (.aK 4) 8 47 [(.aK 2,[aI 11,aE 6 0,aU 7,aI 8,aI 9,aI 10])]],[],.lit 0⟩],[],[],11,[],[],
 []⟩
def auQ:FE:=⟨14550,32,[],[],some (⟨15,[(0,.agg [aD 0 3,aD 1 4]),(1,.ptr 0 0),(2,aI 2),(3,.agg [aU 3,aI 4,aI 5,aI 6])],[.cells [aD 7 7,aV 1 8 8] 33,
 .vec (.aK 8) 8 47 [(.aK 2,[aI 9,aE 10 0,aU 11,aI 12,aI 13,aI 14])]],[],.lit 0⟩,[.cells [aD 7 7,aV 1 8 8] 33,.vec (.aK 8) 8 47 [(.aK 2,[aI 9,aE 10 0,aU 11,aI 12,aI 13,aI 14])]],15),[⟨27,[(0,.agg [aI 15,aU 16,aI 17,aI 18,aI 19]),(1,aU 20)],[.cells [aD 21 7,aV 1 8 8] 33,
 .vec (.aK 8) 8 47 [(.aK 2,[aI 22,aE 10 0,aU 23,aI 24,aI 25,aI 26])]],[],.lit 0⟩],[],[],15,[],[],
 []⟩
def auU:FE:=⟨12900,127,[],[],some (⟨2,[(0,.agg [.aA,.slice 0 0 1 (.exact 1)])],[.cells [aS 0,.aA,aI 1] 173 ],[],.lit 0⟩,[.cells [aS 0,.aA,aI 1] 173],2),[⟨2,[(0,.bool (.lit false))],[.cells [aS 0,.aA,aI 1] 173 ],[],.lit 0⟩,⟨2,[(0,.bool (.lit true))],[.cells [aS 0,.aA,aI 1] 173 ],[],.lit 0⟩],[],[],2,[],[],
 []⟩
def feT:Tr FE:=(nO (nO (nS aEb (nS aD7 (nS aDZ (nS aB0 (nO (nO (nL auX) .nil) .nil) .nil) (nO .nil (nL aBF))) (nS aB8 (nS aBT (nO .nil .nil) (nL aBN)) (nO .nil (nO .nil (nL avG))))) (nS aD3 (nS aDV (nS aBW .nil (nO (nO (nL auQ) .nil) .nil)) (nO .nil (nO .nil (nL avK)))) (nS aB4 (nO .nil (nL aBJ)) (nO .nil (nO .nil (nL avC)))))) (nS aD9 (nS aD5 (nS aDX (nS aBY (nO (nO (nL auV) .nil) (nO (nO .nil .nil) .nil)) .nil) (nO .nil (nO .nil (nL avM)))) (nS aB6 (nS aBR .nil (nL aBL)) (nO (nO (nO (nL auS) .nil) .nil) (nO .nil (nL avE))))) (nS aD1 (nS aCa (nS aBV (nO .nil .nil) (nL aBP)) (nO .nil (nO (nL aBC) (nL avI)))) (nS aB2 (nO .nil (nL aBH)) (nO .nil (nO .nil (nL auZ))))))) (nS aEc (nS aEa (nS aD6 (nS aDY (nS aBZ (nO (nO (nL auW) .nil) (nO (nO .nil .nil) .nil)) .nil) (nO .nil (nS aBE .nil (nL avN)))) (nS aB7 (nS aBS .nil (nL aBM)) (nO (nO (nO (nL auT) .nil) .nil) (nO .nil (nL avF))))) (nS aD2 (nS aCb (nO .nil (nL aBQ)) (nO .nil (nO (nL aBD) (nL avJ)))) (nS aB3 (nO .nil (nS aBI (nO (nO .nil .nil) .nil) .nil)) (nO .nil (nO .nil (nL avA)))))) (nS aD8 (nS aD4 (nS aDW (nS aBX (nO (nO (nL auU) .nil) .nil) (nO (nO (nL auR) .nil) .nil)) (nO .nil (nO .nil (nL avL)))) (nS aB5 (nO .nil (nL aBK)) (nO .nil (nO .nil (nL avD))))) (nS aD0 (nS aB9 (nS aBU (nL anM) (nL aBO)) (nO .nil (nO .nil (nL avH)))) (nS aB1 (nO .nil (nL aBG)) (nO .nil (nO .nil (nL auY))))))))
def aA2:Tr (List Nat):=(nO (nO (nS [3500] (nS [100] (nO (nS [14000,14050] (nO (nL [12400,12450,12500,12550,12600,12650,12700,12750,12900]) .nil) (nO (nL [850]) .nil)) .nil) (nS [300] (nO (nO .nil (nL [5100,5250,5450])) .nil) (nS [1950] (nO .nil (nL [1200])) .nil))) (nS [2000] (nO (nS [200] (nO (nL [1350]) .nil) (nL [950])) (nO .nil (nL [9000,550]))) (nS [9050,1900] (nO .nil .nil) (nO .nil (nO .nil .nil))))) (nO (nS [1850] (nO (nS [350] (nO (nL [1050]) .nil) (nO .nil .nil)) (nO (nO .nil (nL [1250])) .nil)) (nO (nO (nO (nL [1000]) .nil) .nil) .nil)) (nO (nO (nO .nil (nL [5050])) .nil) (nS [1650] (nL [750]) (nS [400] (nO .nil .nil) (nS [900] (nL [1100]) .nil)))))) (nO (nO (nO (nO (nS [14500,14550] (nL [250]) (nO .nil .nil)) (nL [800])) (nS [150] (nO (nO (nL [1400]) .nil) .nil) (nO (nO .nil (nL [5150,5200,5300,5350,5500,5550,5600])) (nO (nO .nil .nil) .nil)))) (nS [2050] (nS [1700] (nO .nil (nL [5400])) (nO .nil (nL [600]))) (nS [1550] (nS [700] (nO .nil (nL [12050,12150,12250,12350])) .nil) (nO .nil (nO (nL [12850]) .nil))))) (nS [1450] (nS [1500] (nO (nL [1600]) (nO (nO .nil (nL [1300])) .nil)) (nO (nO .nil .nil) (nO .nil (nS [650] (nL [12800]) .nil)))) (nO (nS [450] .nil (nO (nO .nil (nL [1150])) .nil)) (nS [1750] (nS [5000] .nil (nO (nL [12000,12100,12200,12300]) .nil)) (nS [500] (nO .nil .nil) (nO .nil .nil)))))))
noncomputable def St:ahM:=⟨Tryz.prog,base,ttE,ft,Vt ttE hints,SK ttE hints,Zn,lim 322 feT,fun g=>(lim 217 aA2 g).getD []⟩
noncomputable def S:Sys:=St.sys
theorem aDU:(List.range 322).all (fun k=>match feT.get k with | some f=>anL ft k f | none=>true)=true:=by kernel_rfl
theorem aA1:(List.range 217).all (fun g=>WL ft (lim 322 feT) g ((aA2.get g).getD []))=true:=by kernel_rfl
theorem aAR:OW S:=by
 refine asR aiF aBy (fun I call hc=>@G6 _ I _ aiF mixed _ _ hc) agH (fun k f hf=>?_) fun g=>?_
 ·have hf':lim 322 feT k=some f:=hf;unfold lim at hf';split at hf'
  ·simp at hf'
  ·rename_i hle
   have hlt:k < 322:=by
    rcases Nat.lt_or_ge k 322 with h | h
    ·exact h
    ·rw [Nat.ble_eq_true_of_le h] at hle; simp at hle
   have:=List.all_eq_true.1 aDU k (List.mem_range.2 hlt);rw [hf'] at this;exact this
 ·show WL ft (lim 322 feT) g ((lim 217 aA2 g).getD [])=true;unfold lim;split
  ·rfl
  ·rename_i hle
   have hlt:g < 217:=by
    rcases Nat.lt_or_ge g 217 with h | h
    ·exact h
    ·rw [Nat.ble_eq_true_of_le h] at hle; simp at hle
   exact List.all_eq_true.1 aA1 g (List.mem_range.2 hlt)
end Go.As.Try
end
section
namespace Go.As.Try
open Go hiding Stat Spec shape
open Go.As Go.Proofs
set_option maxRecDepth 100000
noncomputable section
def b0:D:=.p (.i 0) (.p (.i 0) (.p (.i 0) (.p (.i 0) (.p (.i 0) (.p (.i 0) (.p (.i 0) (.p (.i 0) (.p (.i 0) (.p (.i 1) (.p (.i 1) (.p (.i 0) (.p (.i 0) (.p (.i 1) (.p (.i 0) (.p (.i 0) (.p (.i 0) (.p (.i 0) (.p (.i 0) (.p (.i 0) (.p (.i 0) (.p (.i 0) (.p (.i 0) (.p (.i 0) (.p (.i 0) (.p (.i 0) (.p (.i 0) (.p (.i 0) (.p (.i 0) (.p (.i 0) (.p (.i 0) (.p (.i 0) (.p (.i 1) (.p (.i 0) (.p (.i 0) (.p (.i 2) (.p (.i 0) (.p (.i 0) (.p (.i 0) (.p (.i 0) (.p (.i 5) (.p (.i 5) (.p (.i 5) (.p (.i 5) (.p (.i 0) (.p (.i 5) (.p (.i 0) (.p (.i 0) (.p (.i 3) (.p (.i 3) (.p (.i 3) (.p (.i 3) (.p (.i 3) (.p (.i 3) (.p (.i 3) (.p (.i 3) (.p (.i 3) (.p (.i 3) (.p (.i 0) (.p (.i 5) (.p (.i 5) (.p (.i 5) (.p (.i 0) (.p (.i 0) (.p (.i 0) (.p (.i 4) (.p (.i 4) (.p (.i 4) (.p (.i 4) (.p (.i 4) (.p (.i 4) (.p (.i 4) (.p (.i 4) (.p (.i 4) (.p (.i 4) (.p (.i 4) (.p (.i 4) (.p (.i 4) (.p (.i 4) (.p (.i 4) (.p (.i 4) (.p (.i 4) (.p (.i 4) (.p (.i 4) (.p (.i 4) (.p (.i 4) (.p (.i 4) (.p (.i 4) (.p (.i 4) (.p (.i 4) (.p (.i 4) (.p (.i 0) (.p (.i 0) (.p (.i 0) (.p (.i 0) (.p (.i 4) (.p (.i 0) (.p (.i 4) (.p (.i 4) (.p (.i 4) (.p (.i 4) (.p (.i 4) (.p (.i 4) (.p (.i 4) (.p (.i 4) (.p (.i 4) (.p (.i 4) (.p (.i 4) (.p (.i 4) (.p (.i 4) (.p (.i 4) (.p (.i 4) (.p (.i 4) (.p (.i 4) (.p (.i 4) (.p (.i 4) (.p (.i 4) (.p (.i 4) (.p (.i 4) (.p (.i 4) (.p (.i 4) (.p (.i 4) (.p (.i 4) (.p (.i 5) (.p (.i 0) (.p (.i 5) (.p (.i 0) (.p (.i 0) (.p (.i 0) (.p (.i 0) (.p (.i 0) (.p (.i 0) (.p (.i 0) (.p (.i 0) (.p (.i 0) (.p (.i 0) (.p (.i 0) (.p (.i 0) (.p (.i 0) (.p (.i 0) (.p (.i 0) (.p (.i 0) (.p (.i 0) (.p (.i 0) (.p (.i 0) (.p (.i 0) (.p (.i 0) (.p (.i 0) (.p (.i 0) (.p (.i 0) (.p (.i 0) (.p (.i 0) (.p (.i 0) (.p (.i 0) (.p (.i 0) (.p (.i 0) (.p (.i 0) (.p (.i 0) (.p (.i 0) (.p (.i 0) (.p (.i 0) (.p (.i 0) (.p (.i 0) (.p (.i 0) (.p (.i 0) (.p (.i 0) (.p (.i 0) (.p (.i 0) (.p (.i 0) (.p (.i 0) (.p (.i 0) (.p (.i 0) (.p (.i 0) (.p (.i 0) (.p (.i 0) (.p (.i 0) (.p (.i 0) (.p (.i 0) (.p (.i 0) (.p (.i 0) (.p (.i 0) (.p (.i 0) (.p (.i 0) (.p (.i 0) (.p (.i 0) (.p (.i 0) (.p (.i 0) (.p (.i 0) (.p (.i 0) (.p (.i 0) (.p (.i 0) (.p (.i 0) (.p (.i 0) (.p (.i 0) (.p (.i 0) (.p (.i 0) (.p (.i 0) (.p (.i 0) (.p (.i 0) (.p (.i 0) (.p (.i 0) (.p (.i 0) (.p (.i 0) (.p (.i 0) (.p (.i 0) (.p (.i 0) (.p (.i 0) (.p (.i 0) (.p (.i 0) (.p (.i 0) (.p (.i 0) (.p (.i 0) (.p (.i 0) (.p (.i 0) (.p (.i 0) (.p (.i 0) (.p (.i 0) (.p (.i 0) (.p (.i 0) (.p (.i 0) (.p (.i 0) (.p (.i 0) (.p (.i 0) (.p (.i 0) (.p (.i 0) (.p (.i 0) (.p (.i 0) (.p (.i 0) (.p (.i 0) (.p (.i 0) (.p (.i 0) (.p (.i 0) (.p (.i 0) (.p (.i 0) (.p (.i 0) (.p (.i 0) (.p (.i 0) (.p (.i 0) (.p (.i 0) (.p (.i 0) (.p (.i 0) (.p (.i 0) (.p (.i 0) (.p (.i 0) (.p (.i 0) (.p (.i 0) (.p (.i 0) (.p (.i 0) (.p (.i 0) (.p (.i 0) (.p (.i 0) (.p (.i 0) (.p (.i 0) (.p (.i 0) (.p (.i 0) (.p (.i 0) (.i 0))))))))))))))))))))))))))))))))))))))))))))))))))))))))))))))))))))))))))))))))))))))))))))))))))))))))))))))))))))))))))))))))))))))))))))))))))))))))))))))))))))))))))))))))))))))))))))))))))))))))))))))))))))))))))))))))))))))))))))))))))))))))))))))))
def b1:D:=.p (.i 32) (.p (.i 97) (.p (.i 99) (.p (.i 113) (.p (.i 117) (.p (.i 105) (.p (.i 114) (.p (.i 101) (.p (.i 32) (.p (.i 97) (.p (.i 100) (.p (.i 100) (.p (.i 32) (.p (.i 97) (.p (.i 114) (.p (.i 114) (.p (.i 105) (.p (.i 118) (.p (.i 101) (.p (.i 32) (.p (.i 98) (.p (.i 97) (.p (.i 114) (.p (.i 114) (.p (.i 105) (.p (.i 101) (.p (.i 114) (.p (.i 32) (.p (.i 98) (.p (.i 114) (.p (.i 111) (.p (.i 97) (.p (.i 100) (.p (.i 99) (.p (.i 97) (.p (.i 115) (.p (.i 116) (.p (.i 32) (.p (.i 99) (.p (.i 111) (.p (.i 110) (.p (.i 100) (.p (.i 32) (.p (.i 100) (.p (.i 111) (.p (.i 32) (.p (.i 100) (.p (.i 111) (.p (.i 110) (.p (.i 101) (.p (.i 32) (.p (.i 101) (.p (.i 108) (.p (.i 115) (.p (.i 101) (.p (.i 32) (.p (.i 105) (.p (.i 102) (.p (.i 32) (.p (.i 108) (.p (.i 111) (.p (.i 99) (.p (.i 107) (.p (.i 32) (.p (.i 108) (.p (.i 111) (.p (.i 99) (.p (.i 107) (.p (.i 102) (.p (.i 111) (.p (.i 114) (.p (.i 32) (.p (.i 108) (.p (.i 111) (.p (.i 111) (.p (.i 112) (.p (.i 32) (.p (.i 109) (.p (.i 117) (.p (.i 116) (.p (.i 101) (.p (.i 120) (.p (.i 32) (.p (.i 111) (.p (.i 110) (.p (.i 99) (.p (.i 101) (.p (.i 32) (.p (.i 112) (.p (.i 117) (.p (.i 116) (.p (.i 32) (.p (.i 113) (.p (.i 117) (.p (.i 101) (.p (.i 117) (.p (.i 101) (.p (.i 32) (.p (.i 114) (.p (.i 101) (.p (.i 97) (.p (.i 100) (.p (.i 32) (.p (.i 114) (.p (.i 101) (.p (.i 108) (.p (.i 101) (.p (.i 97) (.p (.i 115) (.p (.i 101) (.p (.i 32) (.p (.i 114) (.p (.i 108) (.p (.i 111) (.p (.i 99) (.p (.i 107) (.p (.i 32) (.p (.i 114) (.p (.i 117) (.p (.i 110) (.p (.i 108) (.p (.i 111) (.p (.i 99) (.p (.i 107) (.p (.i 32) (.p (.i 114) (.p (.i 119) (.p (.i 108) (.p (.i 111) (.p (.i 99) (.p (.i 107) (.p (.i 32) (.p (.i 115) (.p (.i 101) (.p (.i 109) (.p (.i 32) (.p (.i 115) (.p (.i 101) (.p (.i 116) (.p (.i 32) (.p (.i 115) (.p (.i 105) (.p (.i 103) (.p (.i 110) (.p (.i 97) (.p (.i 108) (.p (.i 32) (.p (.i 116) (.p (.i 97) (.p (.i 107) (.p (.i 101) (.p (.i 32) (.p (.i 116) (.p (.i 104) (.p (.i 114) (.p (.i 101) (.p (.i 97) (.p (.i 100) (.p (.i 32) (.p (.i 116) (.p (.i 114) (.p (.i 121) (.p (.i 97) (.p (.i 99) (.p (.i 113) (.p (.i 117) (.p (.i 105) (.p (.i 114) (.p (.i 101) (.p (.i 32) (.p (.i 116) (.p (.i 114) (.p (.i 121) (.p (.i 108) (.p (.i 111) (.p (.i 99) (.p (.i 107) (.p (.i 32) (.p (.i 117) (.p (.i 110) (.p (.i 108) (.p (.i 111) (.p (.i 99) (.p (.i 107) (.p (.i 32) (.p (.i 118) (.p (.i 97) (.p (.i 114) (.p (.i 32) (.p (.i 119) (.p (.i 97) (.p (.i 105) (.p (.i 116) (.p (.i 32) (.p (.i 119) (.p (.i 97) (.p (.i 105) (.p (.i 116) (.p (.i 102) (.p (.i 111) (.p (.i 114) (.p (.i 32) (.p (.i 119) (.p (.i 97) (.p (.i 105) (.p (.i 116) (.p (.i 111) (.p (.i 110) (.p (.i 32) (.p (.i 119) (.p (.i 108) (.p (.i 111) (.p (.i 99) (.p (.i 107) (.p (.i 32) (.p (.i 119) (.p (.i 114) (.p (.i 105) (.p (.i 116) (.p (.i 101) (.p (.i 32) (.p (.i 119) (.p (.i 117) (.p (.i 110) (.p (.i 108) (.p (.i 111) (.p (.i 99) (.p (.i 107) (.p (.i 32) (.i 0)))))))))))))))))))))))))))))))))))))))))))))))))))))))))))))))))))))))))))))))))))))))))))))))))))))))))))))))))))))))))))))))))))))))))))))))))))))))))))))))))))))))))))))))))))))))))))))))))))))))))))))))))))))))))))))))))))))
abbrev Qa:SE:=.lit 0
abbrev Qb:SE:=.aK 1
abbrev Qc:SE:=ln Qb
abbrev Qd:SB:=.lt Qa Qc
abbrev Qe:SB:=.lt Qc (.lit 1759218604441)
abbrev Qf:SE:=.aK 0
abbrev Qg:SE:=.op .norm Qb Qa
abbrev Qh:SE:=.dat (.i 1)
abbrev Qi:SB:=.eq Qg Qh
abbrev Qj:List SE:=[Qf]
abbrev Qk:SE:=.dat (.i 2)
abbrev Ql:SB:=.eq Qg Qk
def PN:T Lf:=sp Qd (sp Qe (ju 9001 [Qf,Qb,Qc,Qa]) fl) (sp Qi (ju 9002 Qj) (sp Ql (ju 9003 Qj) fl))
abbrev Qm:SE:=.aK 3
abbrev Qn:SB:=.eq Qm Qf
abbrev Qo:SE:=.aK 2
abbrev Qp:SB:=.lt Qm Qo
abbrev Qq:SB:=.lt Qm Qa
abbrev Qr:SB:=.lt Qm Qc
abbrev Qs:SE:=el Qb Qm
abbrev Qt:SE:=ce 4 Qs
abbrev Qu:SB:=.lt Qa (ln Qt)
abbrev Qv:SE:=.lit 17592186044416
abbrev Qw:SB:=.lt (ln Qt) Qv
abbrev Qx:SE:=ce 5 Qs
abbrev Qy:SB:=.lt Qa (ln Qx)
abbrev Qz:SB:=.lt (ln Qx) Qv
abbrev Q0:SE:=.lit 1
abbrev Q1:SE:=wr (.add Qm Q0)
abbrev Q2:SE:=el Qb Qf
abbrev Q3:SE:=nm (ce 0 Q2)
abbrev Q4:SE:=nm (ce 1 Q2)
abbrev Q5:SE:=nm (ce 2 Q2)
abbrev Q6:SE:=nm (ce 3 Q2)
abbrev Q7:SB:=.eq Qx Qh
abbrev Q8:SB:=.eq Qx Qk
abbrev Q9:SB:=.eq Qt Qh
abbrev Qba:SB:=.eq Qt Qk
abbrev Qbb:T Lf:=ou [Qa,Qf,Qb]
abbrev Yp:SE:=mk Qm
abbrev Qbd:SE:=.dat (.i 4)
abbrev Qbe:SE:=.op .set Qb (cn Yp (.op .set Qs (cn Qbd Qt)))
abbrev Qbf:SE:=.dat (.i 5)
abbrev Qbg:SE:=.op .set Qbe (cn Yp (.op .set (el Qbe Qm) (cn Qbf Qx)))
abbrev Qbh:SE:=cn Qbf Qh
abbrev Qbi:SE:=.op .set Qbe (cn Yp (.op .set (el Qbe Qm) Qbh))
abbrev Qbj:SE:=cn Qbf Qk
abbrev Qbk:SE:=.op .set Qbe (cn Yp (.op .set (el Qbe Qm) Qbj))
abbrev Qbl:SE:=cn Qbd Qh
abbrev Qbm:SE:=.op .set Qb (cn Yp (.op .set Qs Qbl))
abbrev Qbn:SE:=.op .set Qbm (cn Yp (.op .set (el Qbm Qm) (cn Qbf Qx)))
abbrev Qbo:SE:=.op .set Qbm (cn Yp (.op .set (el Qbm Qm) Qbh))
abbrev Qbp:SE:=.op .set Qbm (cn Yp (.op .set (el Qbm Qm) Qbj))
abbrev Qbq:SE:=cn Qbd Qk
abbrev Qbr:SE:=.op .set Qb (cn Yp (.op .set Qs Qbq))
abbrev Qbs:SE:=.op .set Qbr (cn Yp (.op .set (el Qbr Qm) (cn Qbf Qx)))
abbrev Qbt:SE:=.op .set Qbr (cn Yp (.op .set (el Qbr Qm) Qbh))
abbrev Qbu:SE:=.op .set Qbr (cn Yp (.op .set (el Qbr Qm) Qbj))
def vV:T Lf:=sp Qn (sp Qp (sp Qq fl (sp Qr (sp Qu (sp Qw (sp Qy (sp Qz (ju 9004 [Qf,Qb,Qo,Q1,Q3,Q4,Q5,Q6,Qt,Qx]) fl) (sp Q7 (ju 9005 [Qf,Qb,Qo,Q1,Q3,Q4,Q5,Q6,Qt,Qh]) (sp Q8 (ju 9005 [Qf,Qb,Qo,Q1,Q3,Q4,Q5,Q6,Qt,Qk]) fl))) fl) (sp Q9 (sp Qy (sp Qz (ju 9006 [Qf,Qb,Qo,Q1,Q3,Q4,Q5,Q6,Qh,Qx]) fl) (sp Q7 (ju 9007 [Qf,Qb,Qo,Q1,Q3,Q4,Q5,Q6,Qh,Qh]) (sp Q8 (ju 9007 [Qf,Qb,Qo,Q1,Q3,Q4,Q5,Q6,Qh,Qk]) fl))) (sp Qba (sp Qy (sp Qz (ju 9006 [Qf,Qb,Qo,Q1,Q3,Q4,Q5,Q6,Qk,Qx]) fl) (sp Q7 (ju 9007 [Qf,Qb,Qo,Q1,Q3,Q4,Q5,Q6,Qk,Qh]) (sp Q8 (ju 9007 [Qf,Qb,Qo,Q1,Q3,Q4,Q5,Q6,Qk,Qk]) fl))) fl))) fl)) Qbb) (sp Qp (sp Qq fl (sp Qr (sp Qu (sp Qw (sp Qy (sp Qz (ju 9001 [Qf,Qbg,Qo,Q1]) fl) (sp Q7 (ju 9001 [Qf,Qbi,Qo,Q1]) (sp Q8 (ju 9001 [Qf,Qbk,Qo,Q1]) fl))) fl) (sp Q9 (sp Qy (sp Qz (ju 9001 [Qf,Qbn,Qo,Q1]) fl) (sp Q7 (ju 9001 [Qf,Qbo,Qo,Q1]) (sp Q8 (ju 9001 [Qf,Qbp,Qo,Q1]) fl))) (sp Qba (sp Qy (sp Qz (ju 9001 [Qf,Qbs,Qo,Q1]) fl) (sp Q7 (ju 9001 [Qf,Qbt,Qo,Q1]) (sp Q8 (ju 9001 [Qf,Qbu,Qo,Q1]) fl))) fl))) fl)) Qbb)
abbrev Qbv:SB:=.eq Qa Qf
def aiR:T Lf:=sp Qbv (ou [Q0,Qf]) (ou [Q0,Qf])
abbrev nV:SE:=.lit 2
def aiQ:T Lf:=sp Qbv (ou [nV,Qf]) (ou [nV,Qf])
abbrev Qbx:T Lf:=sp Qq fl (sp Qr fl fl)
abbrev wR:SE:=.lit 3
abbrev bD:SE:=.aK 4
abbrev bU:SE:=.aK 5
abbrev dN:SE:=.aK 6
abbrev eF:SE:=.aK 7
abbrev fB:SE:=.aK 8
abbrev fF:SE:=.aK 9
abbrev Qb5:T Lf:=ou [wR,Qf,Qb,bD,bU,dN,eF,fB,fF]
abbrev Qb6:List SE:=[Qf,Qbg,Qo,Q1,bD,bU,dN,eF,fB,fF]
abbrev Qb7:List SE:=[Qf,Qbi,Qo,Q1,bD,bU,dN,eF,fB,fF]
abbrev Qb8:List SE:=[Qf,Qbk,Qo,Q1,bD,bU,dN,eF,fB,fF]
abbrev Qb9:List SE:=[Qf,Qbn,Qo,Q1,bD,bU,dN,eF,fB,fF]
abbrev Qca:List SE:=[Qf,Qbo,Qo,Q1,bD,bU,dN,eF,fB,fF]
abbrev Qcb:List SE:=[Qf,Qbp,Qo,Q1,bD,bU,dN,eF,fB,fF]
abbrev Qcc:List SE:=[Qf,Qbs,Qo,Q1,bD,bU,dN,eF,fB,fF]
abbrev Qcd:List SE:=[Qf,Qbt,Qo,Q1,bD,bU,dN,eF,fB,fF]
abbrev Qce:List SE:=[Qf,Qbu,Qo,Q1,bD,bU,dN,eF,fB,fF]
def aaX:T Lf:=sp Qn (sp Qp Qbx Qb5) (sp Qp (sp Qq fl (sp Qr (sp Qu (sp Qw (sp Qy (sp Qz (ju 9004 Qb6) fl) (sp Q7 (ju 9004 Qb7) (sp Q8 (ju 9004 Qb8) fl))) fl) (sp Q9 (sp Qy (sp Qz (ju 9004 Qb9) fl) (sp Q7 (ju 9004 Qca) (sp Q8 (ju 9004 Qcb) fl))) (sp Qba (sp Qy (sp Qz (ju 9004 Qcc) fl) (sp Q7 (ju 9004 Qcd) (sp Q8 (ju 9004 Qce) fl))) fl))) fl)) Qb5)
abbrev sF:SE:=.lit 4
abbrev Qcg:T Lf:=ou [sF,Qf,Qb,bD,bU,dN,eF,fB,fF]
def aaW:T Lf:=sp Qn (sp Qp Qbx Qcg) (sp Qp (sp Qq fl (sp Qr (sp Qu (sp Qw (sp Qy (sp Qz (ju 9005 Qb6) fl) (sp Q7 (ju 9005 Qb7) (sp Q8 (ju 9005 Qb8) fl))) fl) (sp Q9 (sp Qy (sp Qz (ju 9005 Qb9) fl) (sp Q7 (ju 9005 Qca) (sp Q8 (ju 9005 Qcb) fl))) (sp Qba (sp Qy (sp Qz (ju 9005 Qcc) fl) (sp Q7 (ju 9005 Qcd) (sp Q8 (ju 9005 Qce) fl))) fl))) fl)) Qcg)
abbrev Qch:SE:=.lit 5
abbrev Qci:T Lf:=ou [Qch,Qf,Qb,bD,bU,dN,eF,fB,fF]
def aaV:T Lf:=sp Qn (sp Qp Qbx Qci) (sp Qp (sp Qq fl (sp Qr (sp Qu (sp Qw (sp Qy (sp Qz (ju 9006 Qb6) fl) (sp Q7 (ju 9006 Qb7) (sp Q8 (ju 9006 Qb8) fl))) fl) (sp Q9 (sp Qy (sp Qz (ju 9006 Qb9) fl) (sp Q7 (ju 9006 Qca) (sp Q8 (ju 9006 Qcb) fl))) (sp Qba (sp Qy (sp Qz (ju 9006 Qcc) fl) (sp Q7 (ju 9006 Qcd) (sp Q8 (ju 9006 Qce) fl))) fl))) fl)) Qci)
abbrev Yn:SE:=.lit 6
abbrev Qck:T Lf:=ou [Yn,Qf,Qb,bD,bU,dN,eF,fB,fF]
def aaU:T Lf:=sp Qn (sp Qp Qbx Qck) (sp Qp (sp Qq fl (sp Qr (sp Qu (sp Qw (sp Qy (sp Qz (ju 9007 Qb6) fl) (sp Q7 (ju 9007 Qb7) (sp Q8 (ju 9007 Qb8) fl))) fl) (sp Q9 (sp Qy (sp Qz (ju 9007 Qb9) fl) (sp Q7 (ju 9007 Qca) (sp Q8 (ju 9007 Qcb) fl))) (sp Qba (sp Qy (sp Qz (ju 9007 Qcc) fl) (sp Q7 (ju 9007 Qcd) (sp Q8 (ju 9007 Qce) fl))) fl))) fl)) Qck)
abbrev Qcl:SE:=ln Qo
abbrev Qcm:SB:=.lt Qa Qcl
abbrev Qcn:SB:=.lt Qcl (.lit 2199023255552)
abbrev Qco:SB:=.eq (.op .norm Qo Qa) Qh
abbrev Qcp:List SE:=[Qf,Qc,Qa,Qb]
abbrev Qcq:SB:=.eq (.op .norm Qo Qa) Qk
def Je:T Lf:=sp Qd (sp Qe (sp Qcm (sp Qcn (ju 9051 [Qf,Qc,Qa,Qb,Qo]) fl) (sp Qco (ju 9052 Qcp) (sp Qcq (ju 9053 Qcp) fl))) fl) (sp Qi (sp Qcm (sp Qcn (ju 9054 [Qf,Qo]) fl) (sp Qco (ju 9055 Qj) (sp Qcq (ju 9056 Qj) fl))) (sp Ql (sp Qcm (sp Qcn (ju 9057 [Qf,Qo]) fl) (sp Qco (ju 9058 Qj) (sp Qcq (ju 9059 Qj) fl))) fl))
abbrev yZ:SB:=.lt Qo Qb
abbrev wQ:SB:=.lt Qo Qa
abbrev Pz:SE:=ln Qm
abbrev Qcu:SB:=.lt Qo Pz
abbrev Qcv:SE:=el Qm Qo
abbrev Qcw:SE:=ce 4 Qcv
abbrev Qcx:SB:=.lt Qa (ln Qcw)
abbrev Qcy:SB:=.lt (ln Qcw) Qv
abbrev Qcz:SE:=ce 5 Qcv
abbrev Qc0:SB:=.lt Qa (ln Qcz)
abbrev Qc1:SB:=.lt (ln Qcz) Qv
abbrev mZ:SE:=wr (.add Qo Q0)
abbrev Fp:SE:=mk Qo
abbrev Qc4:SE:=.op .set Qm (cn Fp (.op .set Qcv (cn Qbd Qcw)))
abbrev Qc5:SE:=.op .set Qc4 (cn Fp (.op .set (el Qc4 Qo) (cn Qbf Qcz)))
abbrev Qc6:SB:=.eq Qcz Qh
abbrev Qc7:SE:=.op .set Qc4 (cn Fp (.op .set (el Qc4 Qo) Qbh))
abbrev Qc8:SB:=.eq Qcz Qk
abbrev Qc9:SE:=.op .set Qc4 (cn Fp (.op .set (el Qc4 Qo) Qbj))
abbrev Qda:SE:=.op .set Qm (cn Fp (.op .set Qcv Qbl))
abbrev Qdb:SE:=.op .set Qda (cn Fp (.op .set (el Qda Qo) (cn Qbf Qcz)))
abbrev Qdc:SE:=.op .set Qda (cn Fp (.op .set (el Qda Qo) Qbh))
abbrev Qdd:SE:=.op .set Qda (cn Fp (.op .set (el Qda Qo) Qbj))
abbrev Qde:SE:=.op .set Qm (cn Fp (.op .set Qcv Qbq))
abbrev Qdf:SE:=.op .set Qde (cn Fp (.op .set (el Qde Qo) (cn Qbf Qcz)))
abbrev Qdg:SE:=.op .set Qde (cn Fp (.op .set (el Qde Qo) Qbh))
abbrev Qdh:SE:=.op .set Qde (cn Fp (.op .set (el Qde Qo) Qbj))
abbrev Qdi:SE:=ln bD
def aaT:T Lf:=sp yZ (sp wQ fl (sp Qcu (sp Qcx (sp Qcy (sp Qc0 (sp Qc1 (ju 9051 [Qf,Qb,mZ,Qc5,bD]) fl) (sp Qc6 (ju 9051 [Qf,Qb,mZ,Qc7,bD]) (sp Qc8 (ju 9051 [Qf,Qb,mZ,Qc9,bD]) fl))) fl) (sp (.eq Qcw Qh) (sp Qc0 (sp Qc1 (ju 9051 [Qf,Qb,mZ,Qdb,bD]) fl) (sp Qc6 (ju 9051 [Qf,Qb,mZ,Qdc,bD]) (sp Qc8 (ju 9051 [Qf,Qb,mZ,Qdd,bD]) fl))) (sp (.eq Qcw Qk) (sp Qc0 (sp Qc1 (ju 9051 [Qf,Qb,mZ,Qdf,bD]) fl) (sp Qc6 (ju 9051 [Qf,Qb,mZ,Qdg,bD]) (sp Qc8 (ju 9051 [Qf,Qb,mZ,Qdh,bD]) fl))) fl))) fl)) (ju 9060 [Qf,Qdi,Qa,Qm,bD])
def aaS:T Lf:=sp yZ (sp wQ fl (sp Qcu (sp Qcx (sp Qcy (sp Qc0 (sp Qc1 (ju 9052 [Qf,Qb,mZ,Qc5]) fl) (sp Qc6 (ju 9052 [Qf,Qb,mZ,Qc7]) (sp Qc8 (ju 9052 [Qf,Qb,mZ,Qc9]) fl))) fl) (sp (.eq Qcw Qh) (sp Qc0 (sp Qc1 (ju 9052 [Qf,Qb,mZ,Qdb]) fl) (sp Qc6 (ju 9052 [Qf,Qb,mZ,Qdc]) (sp Qc8 (ju 9052 [Qf,Qb,mZ,Qdd]) fl))) (sp (.eq Qcw Qk) (sp Qc0 (sp Qc1 (ju 9052 [Qf,Qb,mZ,Qdf]) fl) (sp Qc6 (ju 9052 [Qf,Qb,mZ,Qdg]) (sp Qc8 (ju 9052 [Qf,Qb,mZ,Qdh]) fl))) fl))) fl)) (ju 9061 [Qf,Qm])
def axK:T Lf:=sp yZ (sp wQ fl (sp Qcu (sp Qcx (sp Qcy (sp Qc0 (sp Qc1 (ju 9053 [Qf,Qb,mZ,Qc5]) fl) (sp Qc6 (ju 9053 [Qf,Qb,mZ,Qc7]) (sp Qc8 (ju 9053 [Qf,Qb,mZ,Qc9]) fl))) fl) (sp (.eq Qcw Qh) (sp Qc0 (sp Qc1 (ju 9053 [Qf,Qb,mZ,Qdb]) fl) (sp Qc6 (ju 9053 [Qf,Qb,mZ,Qdc]) (sp Qc8 (ju 9053 [Qf,Qb,mZ,Qdd]) fl))) (sp (.eq Qcw Qk) (sp Qc0 (sp Qc1 (ju 9053 [Qf,Qb,mZ,Qdf]) fl) (sp Qc6 (ju 9053 [Qf,Qb,mZ,Qdg]) (sp Qc8 (ju 9053 [Qf,Qb,mZ,Qdh]) fl))) fl))) fl)) (ju 9062 [Qf,Qm])
def aiP:T Lf:=ju 9063 Qcp
def axJ:T Lf:=ju 9064 Qj
def axI:T Lf:=ju 9065 Qj
def axH:T Lf:=ju 9066 Qcp
def axG:T Lf:=ju 9067 Qj
def axF:T Lf:=ju 9068 Qj
abbrev Qdj:SB:=.eq Qo Qf
abbrev Qdk:SB:=.lt Qo Qdi
abbrev Qdl:SE:=el bD Qo
abbrev Qdm:SE:=ce 1 Qdl
abbrev Qdn:SB:=.lt Qa (ln Qdm)
abbrev Qdo:SB:=.lt (ln Qdm) Qv
abbrev Qdp:SE:=el bD Qf
abbrev Qdq:SE:=nm (ce 0 Qdp)
abbrev Qdr:SE:=nm (ce 2 Qdp)
abbrev Qds:SE:=nm (ce 3 Qdp)
abbrev Qdt:SE:=nm (ce 4 Qdp)
abbrev Qdu:SE:=nm (ce 5 Qdp)
abbrev Qdv:SB:=.eq Qdm Qh
abbrev Qdw:SB:=.eq Qdm Qk
abbrev Qdx:SE:=.op .set bD (cn Fp (.op .set Qdl (cn Qh Qdm)))
abbrev Qdy:SE:=cn Qh Qh
abbrev Qdz:SE:=.op .set bD (cn Fp (.op .set Qdl Qdy))
abbrev Qd0:SE:=cn Qh Qk
abbrev Qd1:SE:=.op .set bD (cn Fp (.op .set Qdl Qd0))
def FI:T Lf:=sp Qdj (sp yZ (sp wQ fl (sp Qdk (sp Qdn (sp Qdo (ju 9069 [Qf,Qb,mZ,Qm,bD,Qdq,Qdm,Qdr,Qds,Qdt,Qdu]) fl) (sp Qdv (ju 9070 [Qf,Qb,mZ,Qm,bD,Qdq,Qh,Qdr,Qds,Qdt,Qdu]) (sp Qdw (ju 9070 [Qf,Qb,mZ,Qm,bD,Qdq,Qk,Qdr,Qds,Qdt,Qdu]) fl))) fl)) (ou [Qa,Qf,Qm,bD])) (sp yZ (sp wQ fl (sp Qdk (sp Qdn (sp Qdo (ju 9060 [Qf,Qb,mZ,Qm,Qdx]) fl) (sp Qdv (ju 9060 [Qf,Qb,mZ,Qm,Qdz]) (sp Qdw (ju 9060 [Qf,Qb,mZ,Qm,Qd1]) fl))) fl)) (ou [Qa,Qf,Qm,bD]))
abbrev Qd2:T Lf:=ou [Q0,Qf,Qb]
def aiO:T Lf:=sp Qbv Qd2 Qd2
def axE:T Lf:=sp Qbv (ou [nV,Qf,Qb]) (ou [nV,Qf,Qb])
abbrev Qd3:SE:=ce 1 Qcv
abbrev Qd4:SB:=.lt Qa (ln Qd3)
abbrev Qd5:SB:=.lt (ln Qd3) Qv
abbrev Qd6:SE:=el Qm Qf
abbrev Qd7:SE:=nm (ce 0 Qd6)
abbrev Qd8:SE:=nm (ce 2 Qd6)
abbrev Qd9:SE:=nm (ce 3 Qd6)
abbrev Qea:SE:=nm (ce 4 Qd6)
abbrev Qeb:SE:=nm (ce 5 Qd6)
abbrev Qec:List SE:=[Qf,Qb,mZ,Qm,Qd7,Qd3,Qd8,Qd9,Qea,Qeb]
abbrev Qed:SB:=.eq Qd3 Qh
abbrev Qee:List SE:=[Qf,Qb,mZ,Qm,Qd7,Qh,Qd8,Qd9,Qea,Qeb]
abbrev Qef:SB:=.eq Qd3 Qk
abbrev Qeg:List SE:=[Qf,Qb,mZ,Qm,Qd7,Qk,Qd8,Qd9,Qea,Qeb]
abbrev Qeh:SE:=.op .set Qm (cn Fp (.op .set Qcv (cn Qh Qd3)))
abbrev Qei:SE:=.op .set Qm (cn Fp (.op .set Qcv Qdy))
abbrev Qej:SE:=.op .set Qm (cn Fp (.op .set Qcv Qd0))
def FH:T Lf:=sp Qdj (sp yZ (sp wQ fl (sp Qcu (sp Qd4 (sp Qd5 (ju 9071 Qec) fl) (sp Qed (ju 9072 Qee) (sp Qef (ju 9072 Qeg) fl))) fl)) (ou [Qa,Qf,Qh,Qm])) (sp yZ (sp wQ fl (sp Qcu (sp Qd4 (sp Qd5 (ju 9063 [Qf,Qb,mZ,Qeh]) fl) (sp Qed (ju 9063 [Qf,Qb,mZ,Qei]) (sp Qef (ju 9063 [Qf,Qb,mZ,Qej]) fl))) fl)) (ou [Qa,Qf,Qh,Qm]))
def aiN:T Lf:=sp Qbv (ou [Q0,Qf,Qh]) (ou [Q0,Qf,Qh])
def axD:T Lf:=sp Qbv (ou [nV,Qf,Qh]) (ou [nV,Qf,Qh])
def axC:T Lf:=sp Qdj (sp yZ (sp wQ fl (sp Qcu (sp Qd4 (sp Qd5 (ju 9073 Qec) fl) (sp Qed (ju 9074 Qee) (sp Qef (ju 9074 Qeg) fl))) fl)) (ou [Qa,Qf,Qk,Qm])) (sp yZ (sp wQ fl (sp Qcu (sp Qd4 (sp Qd5 (ju 9066 [Qf,Qb,mZ,Qeh]) fl) (sp Qed (ju 9066 [Qf,Qb,mZ,Qei]) (sp Qef (ju 9066 [Qf,Qb,mZ,Qej]) fl))) fl)) (ou [Qa,Qf,Qk,Qm]))
def axB:T Lf:=sp Qbv (ou [Q0,Qf,Qk]) (ou [Q0,Qf,Qk])
def axA:T Lf:=sp Qbv (ou [nV,Qf,Qk]) (ou [nV,Qf,Qk])
abbrev Qek:T Lf:=sp wQ fl (sp Qdk fl fl)
abbrev jQ:SE:=.aK 10
abbrev Qem:T Lf:=ou [wR,Qf,Qm,bD,bU,dN,eF,fB,fF,jQ]
abbrev Qen:List SE:=[Qf,Qb,mZ,Qm,Qdx,bU,dN,eF,fB,fF,jQ]
abbrev Qeo:List SE:=[Qf,Qb,mZ,Qm,Qdz,bU,dN,eF,fB,fF,jQ]
abbrev Qep:List SE:=[Qf,Qb,mZ,Qm,Qd1,bU,dN,eF,fB,fF,jQ]
def aaR:T Lf:=sp Qdj (sp yZ Qek Qem) (sp yZ (sp wQ fl (sp Qdk (sp Qdn (sp Qdo (ju 9069 Qen) fl) (sp Qdv (ju 9069 Qeo) (sp Qdw (ju 9069 Qep) fl))) fl)) Qem)
abbrev Qeq:T Lf:=ou [sF,Qf,Qm,bD,bU,dN,eF,fB,fF,jQ]
def aaQ:T Lf:=sp Qdj (sp yZ Qek Qeq) (sp yZ (sp wQ fl (sp Qdk (sp Qdn (sp Qdo (ju 9070 Qen) fl) (sp Qdv (ju 9070 Qeo) (sp Qdw (ju 9070 Qep) fl))) fl)) Qeq)
abbrev Qer:T Lf:=sp wQ fl (sp Qcu fl fl)
abbrev Qes:T Lf:=ou [wR,Qf,Qh,Qm,bD,bU,dN,eF,fB,fF]
abbrev Qet:List SE:=[Qf,Qb,mZ,Qeh,bD,bU,dN,eF,fB,fF]
abbrev Qeu:List SE:=[Qf,Qb,mZ,Qei,bD,bU,dN,eF,fB,fF]
abbrev Qev:List SE:=[Qf,Qb,mZ,Qej,bD,bU,dN,eF,fB,fF]
def aaP:T Lf:=sp Qdj (sp yZ Qer Qes) (sp yZ (sp wQ fl (sp Qcu (sp Qd4 (sp Qd5 (ju 9071 Qet) fl) (sp Qed (ju 9071 Qeu) (sp Qef (ju 9071 Qev) fl))) fl)) Qes)
abbrev Qew:T Lf:=ou [sF,Qf,Qh,Qm,bD,bU,dN,eF,fB,fF]
def aaO:T Lf:=sp Qdj (sp yZ Qer Qew) (sp yZ (sp wQ fl (sp Qcu (sp Qd4 (sp Qd5 (ju 9072 Qet) fl) (sp Qed (ju 9072 Qeu) (sp Qef (ju 9072 Qev) fl))) fl)) Qew)
abbrev Qex:T Lf:=ou [wR,Qf,Qk,Qm,bD,bU,dN,eF,fB,fF]
def awZ:T Lf:=sp Qdj (sp yZ Qer Qex) (sp yZ (sp wQ fl (sp Qcu (sp Qd4 (sp Qd5 (ju 9073 Qet) fl) (sp Qed (ju 9073 Qeu) (sp Qef (ju 9073 Qev) fl))) fl)) Qex)
abbrev Qey:T Lf:=ou [sF,Qf,Qk,Qm,bD,bU,dN,eF,fB,fF]
def awY:T Lf:=sp Qdj (sp yZ Qer Qey) (sp yZ (sp wQ fl (sp Qcu (sp Qd4 (sp Qd5 (ju 9074 Qet) fl) (sp Qed (ju 9074 Qeu) (sp Qef (ju 9074 Qev) fl))) fl)) Qey)
abbrev vP:SE:=ln Qf
def aCW:T Lf:=ju 101 [wr (.add vP Qc),Qc,Qa,Qf,Qb]
abbrev oV:T Lf:=ou [Q0]
abbrev bW:T Lf:=ou [Qa]
def aCV:T Lf:=sp yZ (sp wQ fl (sp Qdk (ju 102 [wr (.add Qf (wr (.add (ln Qdm) (ln (ce 2 Qdl))))),Qo,Qa,Qb,Qm,bD]) fl)) (sp (.lt (.lit 6000) Qf) oV bW)
abbrev Qe2:SB:=.lt Qb Qa
abbrev Qe3:SE:=ln bU
abbrev X9:SE:=el bU Qb
abbrev wL:SE:=wr (.add Qb Q0)
abbrev Qe6:T Lf:=ju 101 [Qf,Qm,wL,bD,bU]
abbrev Qe7:SE:=ce 6 (el (ce 2 X9) Qo)
def aCU:T Lf:=sp Qe2 fl (sp (.lt Qb Qe3) (sp (.lt Qo (ln (ce 2 X9))) (sp (.lt (.lit 6000) Qf) Qe6 (sp wQ fl (ju 103 [Qf,Qb,Qo,Qm,Qe7,ln Qe7,Qa,bD,bU]))) Qe6) fl)
abbrev Qe8:SB:=.lt dN Qa
abbrev Qe9:SE:=el bD dN
abbrev Qfa:List SE:=[nm (ce 0 Qe9),ce 1 Qe9,nm (ce 2 Qe9),ce 3 Qe9,.lit 60]
def aCT:T Lf:=sp (.lt dN bU) (sp Qe8 fl (sp (.lt dN Qdi) (sp (.eq (a0 150 Qfa) Q0) (ju 103 [wr (.add Qf (rr 150 Qfa 0)),Qb,Qo,Qm,bD,bU,wr (.add dN Q0),eF,fB]) fl) fl)) (ju 102 [Qf,Qb,mZ,Qm,eF,fB])
abbrev Qfb:SB:=.lt bD Q0
def aCS:T Lf:=sp Qfb (ou [.lit 10000]) (ju 151 [bD,wr (.add Q0 (wr (.quo Qc (.lit 100)))),Qa,Qf,Qb,Qo,Qm])
abbrev Qfc:SE:=ln dN
abbrev Qfd:SE:=el dN Qo
abbrev Qfe:List SE:=[nm (ce 0 Qfd),ce 1 Qfd,nm (ce 2 Qfd),ce 3 Qfd,wr (.sub Qf Q0)]
def aCR:T Lf:=sp (.lt Qo Qfc) (sp (.lt (.lit 10000) Qb) (ou [Qb]) (sp wQ fl (sp (.eq (a0 150 Qfe) Q0) (ju 151 [Qf,wr (.add Qb (rr 150 Qfe 0)),mZ,Qm,bD,bU,dN]) fl))) (ou [Qb])
abbrev Qff:SB:=.eq vP Qc
abbrev Qfg:List SE:=[Qf,Qb,vP,Qa]
def asQ:T Lf:=sp Qff (ju 201 Qfg) bW
abbrev Qfh:SB:=.lt Qm vP
abbrev Qfi:SE:=el Qf Qm
abbrev Qfj:SE:=nm (ce 0 Qs)
abbrev Qfk:SB:=.eq (nm (ce 0 Qfi)) Qfj
abbrev Qfl:SB:=.eq (nm (ce 1 Qfi)) (nm (ce 1 Qs))
abbrev Qfm:SE:=nm (ce 2 Qfi)
abbrev Qfn:SE:=nm (ce 2 Qs)
abbrev Qfo:SB:=.eq (nm (ce 3 Qfi)) (nm (ce 3 Qs))
def t201:T Lf:=sp Qp (sp Qq fl (sp Qfh (sp Qr (sp Qfk (sp Qfl (sp (.and (.not (.and (.not (.eq Qfm Qa)) (.not (.eq Qfn Qa)))) (.not (.and (.not (.not (.eq Qfm Qa))) (.not (.not (.eq Qfn Qa)))))) bW (sp Qfo (sp (.eq (a0 250 [ce 4 Qfi,Qt]) Q0) (sp (.eq (rr 250 [ce 4 Qfi,Qt] 0) Qa) bW (sp (.eq (ln (ce 5 Qfi)) (ln Qx)) (ju 202 [Qf,Qb,Qo,Qm,ln (ce 5 Qfi),Qa,nm (ce 0 Qfi),nm (ce 1 Qfi),Qfm,nm (ce 3 Qfi),ce 4 Qfi,ce 5 Qfi,Qfj,nm (ce 1 Qs),Qfn,nm (ce 3 Qs),Qt,Qx]) bW)) fl) bW)) bW) bW) fl) fl)) oV
abbrev Qfp:SB:=.lt bU Qa
abbrev jP:SE:=.aK 11
abbrev O6:SE:=.aK 17
abbrev Qfs:SE:=wr (.add bU Q0)
abbrev nU:SE:=.aK 12
abbrev mG:SE:=.aK 13
abbrev oK:SE:=.aK 14
abbrev Fv:SE:=.aK 15
abbrev O5:SE:=.aK 16
abbrev Qfy:List SE:=[Qf,Qb,Qo,Q1]
def ajO:T Lf:=sp (.lt bU bD) (sp Qfp fl (sp (.lt bU (ln jP)) (sp (.lt bU (ln O6)) (sp (.eq (nm (el jP bU)) (nm (el O6 bU))) (ju 202 [Qf,Qb,Qo,Qm,bD,Qfs,dN,eF,fB,fF,jQ,jP,nU,mG,oK,Fv,O5,O6]) bW) fl) fl)) (ju 201 Qfy)
def asP:T Lf:=sp Qff (ju 251 [Qf,Qb,Qa]) bW
abbrev Qfz:SB:=.lt Qo vP
abbrev Qf0:SB:=.lt Qo Qc
abbrev Ym:SE:=el Qf Qo
abbrev Qf2:SE:=el Qb Qo
def ajM:T Lf:=sp Qfz (sp wQ fl (sp Qf0 (sp (.eq (nm Ym) (nm Qf2)) (ju 251 [Qf,Qb,mZ]) bW) fl)) oV
abbrev Po:List SE:=[Qf,Qb]
abbrev Qf4:SB:=.eq (a0 450 Po) Q0
abbrev Qf5:SB:=.eq (rr 450 Po 0) Qa
def ajL:T Lf:=sp Qf4 (sp Qf5 (ju 301 [Qf,vP]) (ou [Qh])) fl
abbrev Qf6:SB:=.lt Qa Qb
abbrev Qf7:SB:=.lt Qa vP
abbrev Qf8:SE:=el Qf Qa
abbrev Qf9:SE:=nm (ce 0 Qf8)
abbrev lI:SE:=.dat (.i 0)
abbrev Qgb:SE:=.dat (.i (-1))
abbrev Qgc:SE:=mk (nm (ce 2 Qf8))
abbrev Qgd:SE:=cn Qh lI
abbrev Qge:SE:=cn Qh Qgd
abbrev Qgf:SE:=cn lI (cn lI Qge)
abbrev Qgg:T Lf:=ju 302 [.op .snoc lI (cn Qgb (cn Qgc Qgf)),Qf,Qb,Q0]
abbrev Qgh:SE:=.lit 9
def Yx:T Lf:=sp Qf6 (sp Qf7 (sp (.eq Qf9 wR) Qgg (sp (.eq Qf9 Qgh) Qgg (ju 302 [.op .snoc lI (cn Qgb (cn lI Qgf)),Qf,Qb,Q0]))) fl) (ou [Qh])
abbrev Qgi:SB:=.lt vP (.lit 1759218604440)
abbrev Qgj:T Lf:=sp Qgi (ju 302 [.op .snoc Qf (cn Qgb (cn (mk Qfn) Qgf)),Qb,Qo,Q1]) fl
def asO:T Lf:=sp Qp (sp Qq fl (sp Qr (sp (.eq Qfj wR) Qgj (sp (.eq Qfj Qgh) Qgj (sp Qgi (ju 302 [.op .snoc Qf (cn Qgb (cn lI Qgf)),Qb,Qo,Q1]) fl))) fl)) (ou Qj)
def ajK:T Lf:=sp Qf4 (sp Qf5 (sp (.eq Qcl vP) (ju 351 [Qo,Qcl,Qa,Qf,Qb]) bW) bW) fl
abbrev Qgk:SE:=nm (ce 2 Ym)
abbrev Qgl:SE:=nm (ce 0 Ym)
abbrev VH:SE:=ce 1 Ym
abbrev Qgn:SE:=ce 3 Ym
abbrev Qgo:SE:=ce 4 Ym
abbrev Qgp:SE:=ce 5 Ym
abbrev Qgq:List SE:=[nm (ce 0 Qcv),Qd3,nm (ce 2 Qcv),ce 3 Qcv,nm Qcw,Qgl,nm VH,Qa,nm Qgn,Qgo,Qgp,Qdi]
abbrev Qgr:T Lf:=ju 351 [Qf,Qb,mZ,Qm,bD]
abbrev Qgs:List SE:=[nm (ce 0 Qcv),Qd3,nm (ce 2 Qcv),ce 3 Qcv,nm Qcw,Qgl,nm VH,Q0,nm Qgn,Qgo,Qgp,Qdi]
def Yw:T Lf:=sp yZ (sp wQ fl (sp Qfz (sp Qcu (sp (.eq Qgk Qa) (sp (.eq (a0 500 Qgq) Q0) (sp (.eq (rr 500 Qgq 0) Qa) bW Qgr) fl) (sp (.eq (a0 500 Qgs) Q0) (sp (.eq (rr 500 Qgs 0) Qa) bW Qgr) fl)) fl) fl)) oV
abbrev Qgt:List SE:=[bU,Qo]
abbrev Qgu:SE:=rr 9000 Qgt 0
abbrev Qgv:List SE:=[Qf,Qb,Qo]
abbrev Qgw:SB:=.eq (a0 350 Qgv) Q0
abbrev Qgx:SB:=.eq (rr 350 Qgv 0) Qa
abbrev Fq:SE:=rr 9000 Qgt 2
abbrev Qgz:T Lf:=ou [Fq,Qa,Qa,Qa,Qa,Qa,Qa]
abbrev Qg0:T Lf:=sp Qgw (sp Qgx Qgz (sp Qq Qgz (sp Qr Qgz Qgz))) fl
abbrev Qg1:SB:=.lt bU (ln Fq)
abbrev Qg2:T Lf:=ou [Qh,Qa,Qa,Qa,Qa,Qa,Qa]
abbrev Qg3:T Lf:=ou [Qk,Qa,Qa,Qa,Qa,Qa,Qa]
abbrev J6:SE:=mk bU
abbrev Qg5:SE:=rr 9000 Qgt 3
abbrev VI:SE:=mk Qg5
abbrev X8:SE:=rr 9000 Qgt 4
abbrev Yl:SE:=mk X8
abbrev Qg9:SE:=rr 9000 Qgt 5
abbrev Qha:SE:=.op .bit (mk Qg9) Qa
abbrev Qhb:SE:=rr 9000 Qgt 6
abbrev Qhc:SE:=mk Qhb
abbrev VD:SE:=rr 9000 Qgt 7
abbrev Qhe:SE:=rr 9000 Qgt 8
abbrev Qhf:SE:=cn Qhe lI
abbrev Qhg:SE:=cn Qha (cn Qhc (cn VD Qhf))
abbrev Qhh:SE:=cn J6 (cn VI (cn Yl Qhg))
abbrev Qhi:SE:=.op .set Fq Qhh
abbrev KZ:T Lf:=ou [Qhi,Qa,Qa,Qa,Qa,Qa,Qa]
abbrev Qhk:SB:=.eq (a0 600 [bD]) Q0
abbrev Qhl:SB:=.lt bU vP
abbrev Qhm:SB:=.eq (rr 600 [bD] 0) (nm (ce 0 (el Qf bU)))
abbrev Qhn:SB:=.eq bD Q0
abbrev Qho:SB:=.eq Qg5 Qm
abbrev JO:T Lf:=sp (.eq (a0 550 [Qo]) Q0) (ou [rr 550 [Qo] 0,Qm,.lit 27,bU,wr bD,Qa,nV]) fl
abbrev Qhq:SB:=.eq (a0 900 [VD,Qm]) Q0
abbrev Qhr:SB:=.eq (rr 900 [VD,Qm] 0) Qa
abbrev Qhs:SB:=.lt Qg5 Qa
abbrev Qht:SE:=.op .set Fq (cn J6 (cn Yp (cn Yl Qhg)))
abbrev Yk:T Lf:=sp (.eq (a0 550 [Qo]) Q0) (ou [rr 550 [Qo] 0,Qa,Qa,Qa,Qa,Qa,Qa]) fl
abbrev Qhv:T Lf:=sp Qhs (ou [Qht,Qm,bD,bU,Qa,Qa,nV]) Yk
abbrev Qhw:T Lf:=sp Qho JO (sp Qhq (sp Qhr Qhv JO) fl)
abbrev Qhx:SB:=.eq bD nV
abbrev Qhy:T Lf:=sp Qho (ou [.op .set Fq (cn J6 (cn Qgb (cn Yl Qhg))),Qm,bD,bU,Qa,Qa,nV]) JO
abbrev Qhz:SB:=.eq bD (.lit 8)
abbrev Qh0:SB:=.eq bD wR
abbrev Qh1:T Lf:=ou [Qht,Qm,bD,bU,Q0,Qa,nV]
abbrev Qh2:T Lf:=ou [Qhi,Qm,bD,bU,Qa,Qa,nV]
abbrev Qh3:T Lf:=sp Qhs Qh1 Qh2
abbrev Qh4:SB:=.eq bD sF
abbrev Qh5:T Lf:=sp Qhs Qh1 (sp (.lt eF dN) Yk Qh2)
abbrev Qh6:SB:=.eq bD Qch
abbrev VE:SE:=ln VD
abbrev Qh8:SB:=.lt VE (.lit 17592186044415)
abbrev Qh9:SE:=cn Yl (cn Qha (cn Qhc (cn (.op .snoc VD Yp) Qhf)))
abbrev Qia:T Lf:=sp Qho JO (sp Qhq (sp Qhr (sp Qhs (sp Qh8 (ou [.op .set Fq (cn J6 (cn VI Qh9)),Qm,bD,bU,Qa,Qa,nV]) fl) Yk) JO) fl)
abbrev Qib:SB:=.eq bD Yn
abbrev Qic:SB:=.eq (a0 850 [VD,Qm]) Q0
abbrev Qid:SE:=rr 850 [VD,Qm] 0
abbrev Qie:SE:=wr (.add Qid Q0)
abbrev Qif:SE:=.sub VE Qie
abbrev Qig:SE:=.add Qid Qif
abbrev Qih:SE:=.op .cat (.op .cat (.op .take VD Qid) (.op .drop (.op .take VD (.add Qie Qif)) Qie)) (.op .drop VD Qig)
abbrev Qii:SE:=.op .fill Qih (cn (mk Qig) lI)
abbrev Qij:T Lf:=sp (.lt (.sub VE Qig) Qa) fl (sp (.eq (.add Qig (.sub VE Qig)) (ln Qih)) (sp (.lt (ln Qii) Qig) fl (ou [.op .set Fq (cn J6 (cn VI (cn Yl (cn Qha (cn Qhc (cn (.op .take Qii Qig) Qhf)))))),Qm,bD,bU,Qa,Qa,nV])) fl)
abbrev Qik:T Lf:=sp Qic (sp (.lt Qid Qa) JO (sp (.lt Qie Qid) fl (sp (.lt VE Qie) fl (sp (.lt VE VE) fl (sp (.eq Qid Qie) Qh2 (sp (.lt VE Qid) fl (sp (.lt Qie Qa) fl (sp (.lt Qif Qa) fl (sp (.lt VE (.add Qie Qif)) fl (sp (.lt VE Qig) fl (sp (.lt Qig Qa) fl (sp (.lt Qig VE) (sp (.lt (ln Qih) VE) fl Qij) Qij)))))))))))) fl
abbrev Qil:SE:=.lit 7
abbrev Qim:SB:=.eq bD Qil
abbrev Qin:T Lf:=sp Qho JO (sp Qhq (sp Qhr (sp (.eq VE Qa) Qhv Yk) JO) fl)
abbrev Qio:SB:=.eq bD Qgh
abbrev Qip:SE:=.op .set Fq (cn J6 (cn VI (cn (mk (wr (.sub X8 Q0))) Qhg)))
abbrev Qiq:T Lf:=sp (.lt Qa X8) (ou [Qip,Qm,bD,bU,Qa,Qa,nV]) Yk
abbrev Qir:SB:=.eq bD (.lit 11)
abbrev Qis:T Lf:=sp (.lt Qa X8) (ou [Qip,Qm,bD,bU,Q0,Qa,nV]) Qh2
abbrev Qit:SE:=.lit 10
abbrev Qiu:SB:=.eq bD Qit
abbrev Qiv:SE:=nm (ce 2 (el Qf bU))
abbrev Qiw:SE:=.op .set Fq (cn J6 (cn VI (cn (mk (wr (.add X8 Q0))) Qhg)))
abbrev Qix:T Lf:=sp (.lt X8 Qiv) (ou [Qiw,Qm,bD,bU,Qa,Qa,nV]) JO
abbrev Qiy:SB:=.eq bD (.lit 17)
abbrev Qiz:T Lf:=sp (.lt dN (wr (.sub Qa X8))) JO (sp (.lt (wr (.sub (.lit 1099511627776) X8)) dN) JO (ou [.op .set Fq (cn J6 (cn VI (cn (mk (wr (.add X8 dN))) Qhg))),Qm,bD,bU,wr (.add X8 dN),Qa,nV]))
abbrev Qi0:SB:=.eq bD (.lit 18)
abbrev Qi1:T Lf:=sp (.lt Qa X8) (ou [Qip,Qm,bD,bU,wr (.sub X8 Q0),Qa,nV]) JO
abbrev Qi2:SB:=.eq bD (.lit 19)
abbrev Qi3:T Lf:=sp (.eq X8 Qa) Qh2 Yk
abbrev Qi4:SB:=.eq bD (.lit 22)
abbrev Qi5:T Lf:=ou [Qhi,Qm,bD,bU,X8,Qa,nV]
abbrev Qi6:SB:=.eq bD (.lit 23)
abbrev Qi7:T Lf:=ou [.op .set Fq (cn J6 (cn VI (cn (mk dN) Qhg))),Qm,bD,bU,dN,Qa,nV]
abbrev Yj:SE:=.lit 20
abbrev Qi9:SB:=.eq bD Yj
abbrev Qja:T Lf:=sp (.lt (ln Qhe) Qiv) (sp (.lt (ln Qhe) (.lit 17592186044415)) (ou [.op .set Fq (cn J6 (cn VI (cn Yl (cn Qha (cn Qhc (cn VD (cn (.op .snoc Qhe (mk dN)) lI))))))),Qm,bD,bU,dN,Qa,nV]) fl) Yk
abbrev Qjb:SB:=.eq bD (.lit 21)
abbrev Qjc:SE:=.add Q0 (.sub (ln Qhe) Q0)
abbrev Qjd:T Lf:=sp (.eq (ln Qhe) Qa) Yk (sp (.lt (.sub (ln Qhe) Q0) Qa) fl (sp (.lt (ln Qhe) Qjc) fl (ou [.op .set Fq (cn J6 (cn VI (cn Yl (cn Qha (cn Qhc (cn VD (cn (.op .drop (.op .take Qhe Qjc) Q0) lI))))))),Qm,bD,bU,nm (el Qhe Qa),Qa,nV])))
abbrev Qje:SB:=.eq bD (.lit 12)
abbrev Qjf:SB:=.lt Qiv Qa
abbrev Qjg:SB:=.lt Qiv (ln Fq)
abbrev Qjh:SB:=.eq Qiv bU
abbrev Qji:SE:=.lit (-1)
abbrev Qjj:List SE:=[VD,Qm,bU,Qiv,Fq,bD,dN,eF,Qji,X8,Qg9,Qhb,Qhe]
abbrev Qjk:T Lf:=sp Qh8 (ou [.op .set Fq (cn J6 (cn Qgb Qh9)),Qm,bD,bU,Qa,Qa,wR]) fl
abbrev Qjl:SE:=rr 12000 Qjj 14
abbrev Qjm:SE:=rr 12000 Qjj 15
abbrev Qjn:SE:=.add Qjl Q0
abbrev Qjo:SE:=.op .snoc lI Yp
abbrev Qjp:SE:=.op .cat (.op .cat (.op .take Qjm Qjl) Qjo) (.op .drop Qjm Qjn)
abbrev Qjq:SE:=nm (ce 0 (el Fq Qiv))
abbrev Qjr:SB:=.eq Qjq Qm
abbrev Qjs:SE:=.op .set Fq (cn (mk Qiv) (.op .set (el Fq Qiv) (cn lI Qgb)))
abbrev Qjt:List SE:=[VD,Qm,bU,Qiv,Qjs,bD,dN,eF,Qg5,X8,Qg9,Qhb,Qhe]
abbrev Qju:T Lf:=sp Qh8 (ou [.op .set Qjs (cn J6 (cn VI Qh9)),Qm,bD,bU,Qa,Qa,wR]) fl
abbrev Qjv:SE:=rr 12000 Qjt 14
abbrev Qjw:SE:=rr 12000 Qjt 15
abbrev Qjx:SE:=.add Qjv Q0
abbrev Qjy:SE:=.op .cat (.op .cat (.op .take Qjw Qjv) Qjo) (.op .drop Qjw Qjx)
abbrev Qjz:SE:=.op .set Fq (cn J6 (cn VI (cn Yl (cn Qha (cn Qhc (cn Qh Qhf))))))
abbrev Qj0:SE:=.lit 24
abbrev Qj1:SE:=.lit 4611686018427387904
abbrev Qj2:SE:=.lit 25
abbrev Qj3:SE:=.lit 16
abbrev Qj4:T Lf:=sp (.eq bD Qj0) (sp Qjf fl (sp Qjg (sp Qhq (sp Qhr (sp Qjh Qhv (sp (.lt Qjq Qa) (ou [.op .set (.op .set Fq (cn (mk Qiv) (.op .set (el Fq Qiv) (cn lI Yp)))) Qhh,Qm,bD,bU,Qa,Qa,nV]) Yk)) Yk) fl) fl)) (sp (.eq bD (.lit 15)) (sp (.lt Qhb Qj1) (sp (.eq (wr (.add X8 Q0)) Qiv) (ou [.op .set Fq (cn J6 (cn VI (cn lI (cn Qha (cn (mk (wr (.add Qhb Q0))) (cn VD Qhf)))))),Qm,bD,bU,Qhb,Qa,wR]) (ou [Qiw,Qm,bD,bU,Qhb,Qa,wR])) JO) (sp (.eq bD Qj2) (sp (.lt dN Qhb) (ou [Qhi,Qm,bD,bU,dN,Qa,nV]) Yk) (sp (.eq bD Qj3) (sp (.eq Qg9 Qa) (sp Qho JO (sp Qhs Qh1 Yk)) Qh2) (sp (.eq bD (.lit 26)) (sp Qho (ou [.op .set Fq (cn J6 (cn Qgb (cn Yl (cn Qh (cn Qhc (cn VD Qhf)))))),Qm,bD,bU,Qa,Qa,nV]) JO) fl))))
abbrev Qj5:T Lf:=sp (.eq bD (.lit 13)) (sp (.eq VE Qa) Qh2 (sp (.lt (.sub VE Q0) Qa) fl (sp (.lt VE (.add Q0 (.sub VE Q0))) fl (ou [.op .set Fq (cn J6 (cn VI (cn Yl (cn Qha (cn Qhc (cn (.op .drop (.op .take VD (.add Q0 (.sub VE Q0))) Q0) Qhf)))))),Qm,bD,bU,wr (.add (nm (el VD Qa)) Q0),Qa,nV])))) (sp (.eq bD (.lit 14)) (ou [Qjz,Qm,bD,bU,VE,Qa,nV]) Qj4)
abbrev Qj6:T Lf:=sp (.lt Qa Qiv) (ou [.op .set Fq (cn J6 (cn VI (cn Yl (cn Qha (cn Qhc (cn VD (cn (.op .snoc lI (mk dN)) lI))))))),Qm,bD,bU,dN,Qa,nV]) Yk
abbrev Qj7:SE:=rr 12100 Qjj 14
abbrev Qj8:SE:=rr 12100 Qjj 15
abbrev Qj9:SE:=.add Qj7 Q0
abbrev Qka:SE:=.op .cat (.op .cat (.op .take Qj8 Qj7) Qjo) (.op .drop Qj8 Qj9)
abbrev Qkb:SE:=rr 12100 Qjt 14
abbrev Qkc:SE:=rr 12100 Qjt 15
abbrev Qkd:SE:=.add Qkb Q0
abbrev Qke:SE:=.op .cat (.op .cat (.op .take Qkc Qkb) Qjo) (.op .drop Qkc Qkd)
abbrev Qkf:SE:=cn Yl (cn Qha (cn Qhc (cn Qjo Qhf)))
abbrev Qkg:T Lf:=sp Qho JO (sp Qhq (sp Qhr (sp Qhs (ou [.op .set Fq (cn J6 (cn VI Qkf)),Qm,bD,bU,Qa,Qa,nV]) Yk) JO) fl)
abbrev Qkh:T Lf:=sp Qic (sp (.lt Qid Qa) JO fl) fl
abbrev Qki:T Lf:=ou [.op .set Fq (cn J6 (cn Qgb Qkf)),Qm,bD,bU,Qa,Qa,wR]
abbrev Qkj:T Lf:=ou [.op .set Qjs (cn J6 (cn VI Qkf)),Qm,bD,bU,Qa,Qa,wR]
abbrev Qkk:T Lf:=sp (.eq bD (.lit 13)) Qh2 (sp (.eq bD (.lit 14)) (ou [Qjz,Qm,bD,bU,Qa,Qa,nV]) Qj4)
def kR:T Lf:=sp (.eq (a0 9000 Qgt) Q0) (sp (.eq Qgu Qa) (sp Qfp Qg0 (sp Qg1 fl Qg0)) (sp (.eq Qgu Q0) (sp Qgw (sp Qgx Qg2 (sp Qq Qg2 (sp Qr (sp Qfp Qg2 Qg2) Qg2))) fl) (sp (.eq Qgu nV) (sp Qgw (sp Qgx Qg3 (sp Qq Qg3 (sp Qr (sp Qfp Qg3 Qg3) Qg3))) fl) (sp (.eq Qgu wR) (sp Qgw (sp Qgx KZ (sp Qq KZ (sp Qr (sp Qfp KZ (sp Qg1 (sp Qhk (sp Qhl (sp Qhm (sp Qhn Qhw (sp Qhx Qhy (sp Qhz Qhy (sp Qh0 Qh3 (sp Qh4 Qh5 (sp Qh6 Qia (sp Qib Qik (sp Qim Qin (sp Qio Qiq (sp Qir Qis (sp Qiu Qix (sp Qiy Qiz (sp Qi0 Qi1 (sp Qi2 Qi3 (sp Qi4 Qi5 (sp Qi6 Qi7 (sp Qi9 Qja (sp Qjb Qjd (sp Qje (sp Qjf fl (sp Qjg (sp Qjh (sp Qho (sp (.eq (a0 12000 Qjj) Q0) (sp (.eq (rr 12000 Qjj 0) Qa) Qjk (sp (.eq (rr 12000 Qjj 0) Q0) (sp (.lt Qjl Qa) fl (sp (.lt (ln Qjm) Qjn) fl (sp (.lt Qjn Qa) fl (sp (.lt (ln Qjp) Qjn) fl (ou [.op .set Fq (cn J6 (cn Qgb (cn Yl (cn Qha (cn Qhc (cn (.op .take Qjp Qjn) Qhf)))))),Qm,bD,bU,Qa,Qa,wR]))))) fl)) fl) JO) (sp Qjr (sp (.eq (a0 12000 Qjt) Q0) (sp (.eq (rr 12000 Qjt 0) Qa) Qju (sp (.eq (rr 12000 Qjt 0) Q0) (sp (.lt Qjv Qa) fl (sp (.lt (ln Qjw) Qjx) fl (sp (.lt Qjx Qa) fl (sp (.lt (ln Qjy) Qjx) fl (ou [.op .set Qjs (cn J6 (cn VI (cn Yl (cn Qha (cn Qhc (cn (.op .take Qjy Qjx) Qhf)))))),Qm,bD,bU,Qa,Qa,wR]))))) fl)) fl) JO)) fl)) Qj5))))))))))))))))))) KZ) fl) fl) KZ)) KZ))) fl) (sp (.eq Qgu sF) (sp Qgw (sp Qgx KZ (sp Qq KZ (sp Qr (sp Qfp KZ (sp Qg1 (sp Qhk (sp Qhl (sp Qhm (sp Qhn Qhw (sp Qhx Qhy (sp Qhz Qhy (sp Qh0 Qh3 (sp Qh4 Qh5 (sp Qh6 Qia (sp Qib Qik (sp Qim Qin (sp Qio Qiq (sp Qir Qis (sp Qiu Qix (sp Qiy Qiz (sp Qi0 Qi1 (sp Qi2 Qi3 (sp Qi4 Qi5 (sp Qi6 Qi7 (sp Qi9 Qj6 (sp Qjb Yk (sp Qje (sp Qjf fl (sp Qjg (sp Qjh (sp Qho (sp (.eq (a0 12100 Qjj) Q0) (sp (.eq (rr 12100 Qjj 0) Qa) Qjk (sp (.eq (rr 12100 Qjj 0) Q0) (sp (.lt Qj7 Qa) fl (sp (.lt (ln Qj8) Qj9) fl (sp (.lt Qj9 Qa) fl (sp (.lt (ln Qka) Qj9) fl (ou [.op .set Fq (cn J6 (cn Qgb (cn Yl (cn Qha (cn Qhc (cn (.op .take Qka Qj9) Qhf)))))),Qm,bD,bU,Qa,Qa,wR]))))) fl)) fl) JO) (sp Qjr (sp (.eq (a0 12100 Qjt) Q0) (sp (.eq (rr 12100 Qjt 0) Qa) Qju (sp (.eq (rr 12100 Qjt 0) Q0) (sp (.lt Qkb Qa) fl (sp (.lt (ln Qkc) Qkd) fl (sp (.lt Qkd Qa) fl (sp (.lt (ln Qke) Qkd) fl (ou [.op .set Qjs (cn J6 (cn VI (cn Yl (cn Qha (cn Qhc (cn (.op .take Qke Qkd) Qhf)))))),Qm,bD,bU,Qa,Qa,wR]))))) fl)) fl) JO)) fl)) Qj5))))))))))))))))))) KZ) fl) fl) KZ)) KZ))) fl) (sp (.eq Qgu Qch) (sp Qgw (sp Qgx KZ (sp Qq KZ (sp Qr (sp Qfp KZ (sp Qg1 (sp Qhk (sp Qhl (sp Qhm (sp Qhn Qhw (sp Qhx Qhy (sp Qhz Qhy (sp Qh0 Qh3 (sp Qh4 Qh5 (sp Qh6 Qkg (sp Qib Qkh (sp Qim Qhw (sp Qio Qiq (sp Qir Qis (sp Qiu Qix (sp Qiy Qiz (sp Qi0 Qi1 (sp Qi2 Qi3 (sp Qi4 Qi5 (sp Qi6 Qi7 (sp Qi9 Qja (sp Qjb Qjd (sp Qje (sp Qjf fl (sp Qjg (sp Qjh (sp Qho (sp (.eq (a0 12200 Qjj) Q0) (sp (.eq (rr 12200 Qjj 0) Qa) Qki fl) fl) JO) (sp Qjr (sp (.eq (a0 12200 Qjt) Q0) (sp (.eq (rr 12200 Qjt 0) Qa) Qkj fl) fl) JO)) fl)) Qkk))))))))))))))))))) KZ) fl) fl) KZ)) KZ))) fl) (sp (.eq Qgu Yn) (sp Qgw (sp Qgx KZ (sp Qq KZ (sp Qr (sp Qfp KZ (sp Qg1 (sp Qhk (sp Qhl (sp Qhm (sp Qhn Qhw (sp Qhx Qhy (sp Qhz Qhy (sp Qh0 Qh3 (sp Qh4 Qh5 (sp Qh6 Qkg (sp Qib Qkh (sp Qim Qhw (sp Qio Qiq (sp Qir Qis (sp Qiu Qix (sp Qiy Qiz (sp Qi0 Qi1 (sp Qi2 Qi3 (sp Qi4 Qi5 (sp Qi6 Qi7 (sp Qi9 Qj6 (sp Qjb Yk (sp Qje (sp Qjf fl (sp Qjg (sp Qjh (sp Qho (sp (.eq (a0 12300 Qjj) Q0) (sp (.eq (rr 12300 Qjj 0) Qa) Qki fl) fl) JO) (sp Qjr (sp (.eq (a0 12300 Qjt) Q0) (sp (.eq (rr 12300 Qjt 0) Qa) Qkj fl) fl) JO)) fl)) Qkk))))))))))))))))))) KZ) fl) fl) KZ)) KZ))) fl) fl))))))) fl
abbrev Qkl:T Lf:=ju 451 [Qf,vP,Qa,Qb]
def aAQ:T Lf:=sp (.lt (.lit 64) vP) Qkl (sp (.lt Qj3 Qc) Qkl (ju 452 [Qf,vP,Qa,Qb]))
abbrev Qkm:T Lf:=ju 451 [Qf,Qb,mZ,Qm]
def asN:T Lf:=sp yZ (sp wQ fl (sp Qfz Qkm fl)) (ju 453 [Qm,Pz,Qa,Qf])
abbrev Qkn:List SE:=[Qf,Qm,Qgl,VH,Qgk,Qgn,nm Qgo]
def asM:T Lf:=sp yZ (sp wQ fl (sp Qfz (sp (.eq (a0 700 Qkn) Q0) (sp (.eq (rr 700 Qkn 0) Qa) Qkm (ju 452 [Qf,Qb,mZ,Qm])) fl) fl)) (ju 454 [Qm,Pz,Qa,Qf])
abbrev Qko:List SE:=[Qa,Qf,Qb,Qo,Qm,ce 0 Ym,VH,ce 2 Ym]
abbrev Qkp:SE:=.lit 120
def asL:T Lf:=sp yZ (sp wQ fl (sp Qfz (ju 455 Qko) fl)) (ou [Qkp])
def asK:T Lf:=sp yZ (sp wQ fl (sp Qfz (sp (.lt Qkp (ln VH)) (ju 455 Qko) (sp (.lt (.lit 4000) (ln (ce 2 Ym))) (ju 455 Qko) (ju 456 Qko))) fl)) bW
abbrev Qkq:T Lf:=ju 453 [Qb,Qo,Q1,bD]
def asJ:T Lf:=sp (.lt Qf (ln eF)) Qkq Qkq
abbrev Qkr:SE:=el eF Qf
abbrev Qks:List SE:=[bD,Qb,bU,dN,eF,nm (ce 0 Qkr),nm (ce 1 Qkr),nm (ce 2 Qkr),nm (ce 3 Qkr),nm (ce 4 Qkr),nm (ce 5 Qkr),ce 6 Qkr]
abbrev Qkt:SE:=wr (.add Qf Q0)
abbrev Qku:List SE:=[ce 6 Qkr,bU,dN,eF]
abbrev Qkv:List SE:=[Qkt,Qb,Qo,Qm,bD,rr 5000 Qku 0,rr 5000 Qku 1,rr 5000 Qku 2]
def asI:T Lf:=sp (.lt Qf (ln eF)) (sp (.lt Qf Qa) fl (sp (.eq (a0 750 Qks) Q0) (sp (.eq (rr 750 Qks 0) Qa) (ju 455 [Qkt,Qb,Qo,Qm,bD,bU,dN,eF]) (sp (.eq (a0 5000 Qku) Q0) (sp (.eq (rr 5000 Qku 3) Qa) (ju 456 Qkv) (ju 455 Qkv)) fl)) fl)) (ju 454 [Qb,Qo,Q1,bD])
abbrev Qkw:List SE:=[Qf,Qb,Qo,Qm,bD]
abbrev Qkx:SB:=.lt fB Qa
abbrev Qky:SB:=.lt Qa (ln fF)
abbrev Qkz:SB:=.eq Qf sF
abbrev Qk0:SB:=.lt Qa (ln jQ)
abbrev Qk1:SB:=.eq eF Qa
abbrev Qk2:T Lf:=ju 501 [jP,fF,ln fF,Qa,Qf,Qb,Qo,Qm,bD,bU,dN,eF,fB,jQ,lI]
abbrev Qk3:T Lf:=sp (.lt Qa fB) bW Qk2
abbrev Qk4:T Lf:=sp Qk0 bW (sp Qk1 Qk3 bW)
abbrev Qk5:SB:=.eq Qf nV
abbrev Qk6:SB:=.eq Qf (.lit 8)
abbrev Qk7:SB:=.eq Qf Qch
abbrev Qk8:SB:=.eq Qf Q0
abbrev Qk9:T Lf:=sp (.lt bU Qji) bW (sp (.lt bU jP) (sp Qkx bW (sp (.lt Qj1 fB) bW (sp Qfp (sp Qky (sp Qkz Qk4 (sp Qk5 Qk4 bW)) (sp Qk0 (sp Qk6 (sp Qk1 Qk3 bW) bW) (sp Qk1 (sp (.lt Qa fB) (sp Qk7 Qk2 bW) Qk2) (sp (.eq Qf Yn) Qk3 bW)))) (sp Qk8 (sp Qky bW Qk4) (sp Qk5 (sp Qky Qk4 Qk4) (sp (.eq Qf Yn) (sp Qky bW (sp Qk0 bW (sp Qk1 Qk3 Qk3))) bW)))))) bW)
def aeT:T Lf:=sp (.eq (a0 650 Qkw) Q0) (sp (.eq (rr 650 Qkw 1) Qa) Qk9 (sp Qe8 bW (sp (.lt (rr 650 Qkw 0) dN) bW Qk9))) fl
abbrev Qla:SE:=nm Qs
abbrev Qlb:SE:=.op .norm (mk Qla) Qa
abbrev Qlc:T Lf:=ju 501 [Qf,Qb,Qo,Q1,bD,bU,dN,eF,fB,fF,jQ,jP,nU,mG,.op .D7 oK (cn Qlb Qh)]
abbrev Qld:SE:=ln mG
abbrev Qle:SB:=.lt fF Qa
abbrev Qlf:SB:=.eq Qc Qa
abbrev Qlg:T Lf:=sp Qle oV (sp Qlf (sp (.eq jP Qa) oV bW) bW)
def VZ:T Lf:=sp Qp (sp Qq fl (sp Qr (sp (.lt Qla Qa) bW (sp (.lt Qla Qf) (sp (.eq (.op .JU oK Qlb) Qa) Qlc (sp (.eq (nm (.op .JV oK Qlb)) Q0) bW Qlc)) bW)) fl)) (sp Qe8 (sp (.lt Qa Qld) bW Qlg) (sp (.lt dN Qld) bW Qlg))
abbrev Qlh:SB:=.lt vP (.lit 1759218604441)
abbrev Qli:SB:=.eq (.op .norm Qf Qa) Qh
abbrev Qlj:SB:=.eq (.op .norm Qf Qa) Qk
def aiY:T Lf:=sp Qf7 (sp Qlh (ju 551 [Qf,vP,Qa]) fl) (sp Qli (ju 552 []) (sp Qlj (ju 553 []) fl))
abbrev Qlk:SB:=.lt Qa (ln Qgp)
abbrev Qll:SB:=.lt (ln Qgp) Qv
abbrev Qlm:SE:=.op .set Qf (cn Fp (.op .set Ym (cn Qbd Qgo)))
abbrev Qln:SB:=.eq Qgp Qh
abbrev Qlo:SB:=.eq Qgp Qk
abbrev Qlp:SE:=.op .set Qf (cn Fp (.op .set Ym Qbl))
abbrev Qlq:SE:=.op .set Qf (cn Fp (.op .set Ym Qbq))
def asH:T Lf:=sp yZ (sp wQ fl (sp Qfz (sp (.lt Qa (ln Qgo)) (sp (.lt (ln Qgo) Qv) (sp Qlk (sp Qll (ju 551 [.op .set Qlm (cn Fp (.op .set (el Qlm Qo) (cn Qbf Qgp))),Qb,mZ]) fl) (sp Qln (ju 551 [.op .set Qlm (cn Fp (.op .set (el Qlm Qo) Qbh)),Qb,mZ]) (sp Qlo (ju 551 [.op .set Qlm (cn Fp (.op .set (el Qlm Qo) Qbj)),Qb,mZ]) fl))) fl) (sp (.eq Qgo Qh) (sp Qlk (sp Qll (ju 551 [.op .set Qlp (cn Fp (.op .set (el Qlp Qo) (cn Qbf Qgp))),Qb,mZ]) fl) (sp Qln (ju 551 [.op .set Qlp (cn Fp (.op .set (el Qlp Qo) Qbh)),Qb,mZ]) (sp Qlo (ju 551 [.op .set Qlp (cn Fp (.op .set (el Qlp Qo) Qbj)),Qb,mZ]) fl))) (sp (.eq Qgo Qk) (sp Qlk (sp Qll (ju 551 [.op .set Qlq (cn Fp (.op .set (el Qlq Qo) (cn Qbf Qgp))),Qb,mZ]) fl) (sp Qln (ju 551 [.op .set Qlq (cn Fp (.op .set (el Qlq Qo) Qbh)),Qb,mZ]) (sp Qlo (ju 551 [.op .set Qlq (cn Fp (.op .set (el Qlq Qo) Qbj)),Qb,mZ]) fl))) fl))) fl)) (ou Qj)
def aCQ:T Lf:=ou [Qh]
def aCP:T Lf:=ou [Qk]
abbrev Qlr:SB:=.eq Qf wR
abbrev Qls:T Lf:=ou [nV]
abbrev Qlt:T Lf:=ou [sF]
def aAP:T Lf:=sp (.lt (wr Qf) (.lit 27)) (sp (.lt Qf Qa) fl (sp (.lt Qf (.lit 27)) (sp (.eq Qf Qa) bW (sp Qk8 oV (sp Qk5 oV (sp Qlr oV (sp Qkz oV (sp Qk7 Qls (sp (.eq Qf Yn) Qls (sp (.eq Qf Qil) Qls (sp Qk6 Qls (sp (.eq Qf Qgh) (ou [wR]) (sp (.eq Qf Qit) (ou [wR]) (sp (.eq Qf (.lit 11)) (ou [wR]) (sp (.eq Qf (.lit 12)) Qlt (sp (.eq Qf (.lit 13)) Qlt (sp (.eq Qf (.lit 14)) Qlt (sp (.eq Qf (.lit 15)) (ou [Qch]) (sp (.eq Qf Qj3) (ou [Yn]) (sp (.eq Qf (.lit 17)) (ou [Qil]) (sp (.eq Qf (.lit 18)) (ou [Qil]) (sp (.eq Qf (.lit 19)) (ou [Qil]) (sp (.eq Qf Yj) (ou [.lit 8]) (sp (.eq Qf (.lit 21)) (ou [.lit 8]) (sp (.eq Qf (.lit 22)) (ou [Qgh]) (sp (.eq Qf (.lit 23)) (ou [Qgh]) (sp (.eq Qf Qj0) Qlt (sp (.eq Qf Qj2) (ou [Qch]) (ou [Yn]))))))))))))))))))))))))))) fl)) bW
def aiT:T Lf:=sp Qlr (ou [Qo,Q0]) (sp Qk7 (ou [wr (.sub Qo Q0),Q0]) (sp (.eq Qf Qil) (ou [.lit 1099511627776,Q0]) (sp (.eq Qf Qgh) (ou [Qa,Qa]) (ou [Qa,Q0]))))
abbrev Qlu:T Lf:=sp (.eq bD Qa) oV bW
abbrev Qlv:T Lf:=sp Qfb bW (sp (.lt (.lit 1048576) bD) bW oV)
abbrev Qlw:SB:=.lt bD Qa
def aAO:T Lf:=sp (.eq Qo Q0) Qlu (sp (.eq Qo nV) Qlu (sp (.eq Qo Yn) Qlu (sp (.eq Qo Qil) Qlu (sp (.eq Qo wR) Qlv (sp (.eq Qo (.lit 8)) Qlv (sp (.eq Qo Qch) (sp Qfb bW (sp (.lt Qj3 bD) bW oV)) (sp (.eq Qo sF) (sp Qlw bW (sp (.lt bD vP) (sp (.eq (nm (ce 0 (el Qf bD))) Q0) oV bW) bW)) (sp (.eq Qo Qgh) oV bW))))))))
abbrev Qlx:SB:=.lt eF Qa
abbrev Qly:SB:=.eq bU Q0
abbrev Qlz:SB:=.eq bU nV
abbrev Ql0:SB:=.eq bU wR
abbrev Ql1:SB:=.eq bU sF
abbrev Ql2:SB:=.eq bU Qch
abbrev Ql3:T Lf:=sp (.eq bU Yn) bW (sp (.eq bU Qil) bW bW)
abbrev Ql4:T Lf:=sp Ql0 bW (sp Ql1 bW (sp Ql2 bW Ql3))
abbrev Ql5:SB:=.lt eF vP
abbrev Ql6:SE:=nm (ce 0 (el Qf eF))
abbrev Ql7:List SE:=[Ql6,bU,dN,eF,fB,fF,jQ,jP,Qa]
abbrev Ql8:T Lf:=sp (.eq dN Qj3) bW oV
abbrev Ql9:T Lf:=sp (.eq (a0 950 Ql7) Q0) (sp (.eq (rr 950 Ql7 0) Qa) bW Ql8) fl
abbrev Qma:T Lf:=sp Ql5 (sp (.eq Ql6 Yn) oV bW) bW
abbrev Qmb:T Lf:=sp (.eq (ln jP) Q0) oV bW
abbrev Qmc:T Lf:=sp (.lt Qdi fF) bW Qmb
abbrev Qmd:T Lf:=sp (.lt Qdi fF) bW oV
abbrev Qme:T Lf:=sp Ql0 bW (sp Ql1 Qmc (sp Ql2 Qmd Ql3))
abbrev Qmf:T Lf:=sp (.eq dN Qj3) Qmd oV
abbrev Qmg:T Lf:=sp (.eq (a0 950 Ql7) Q0) (sp (.eq (rr 950 Ql7 0) Qa) bW Qmf) fl
abbrev Qmh:SB:=.lt fB Pz
abbrev Qmi:T Lf:=sp Ql0 (sp Qmh Qmb bW) (sp Ql1 bW (sp Ql2 bW (sp (.eq bU Yn) (sp Qmh oV bW) (sp (.eq bU Qil) (sp Qmh bW bW) bW))))
abbrev Qmj:List SE:=[Ql6,bU,dN,eF,fB,fF,jQ,jP,Q0]
abbrev Qmk:T Lf:=sp Ql0 (sp Qmh Qmb bW) (sp Ql1 Qmc (sp Ql2 Qmd (sp (.eq bU Yn) (sp Qmh oV bW) (sp (.eq bU Qil) (sp Qmh Qmd bW) bW))))
def aAN:T Lf:=sp Qkx (sp Qle (sp Qlx (sp Qly bW (sp Qlz bW Ql4)) (sp Qly (sp Ql5 Ql9 bW) (sp Qlz Qma Ql4))) (sp Qlx (sp Qly bW (sp Qlz bW Qme)) (sp Qly (sp Ql5 Qmg bW) (sp Qlz Qma Qme)))) (sp Qle (sp Qlx (sp Qly bW (sp Qlz bW Qmi)) (sp Qly (sp Ql5 (sp Qmh (sp (.eq (a0 950 Qmj) Q0) (sp (.eq (rr 950 Qmj 0) Qa) bW Ql8) fl) Ql9) bW) (sp Qlz Qma Qmi))) (sp Qlx (sp Qly bW (sp Qlz bW Qmk)) (sp Qly (sp Ql5 (sp Qmh (sp (.eq (a0 950 Qmj) Q0) (sp (.eq (rr 950 Qmj 0) Qa) bW Qmf) fl) Qmg) bW) (sp Qlz Qma Qmk))))
abbrev Qml:List SE:=[Qf,Qb,Qo,Qm,Q0,.lit 1000,bD]
def aAM:T Lf:=sp (.eq (a0 5050 Qml) Q0) (sp (.eq (rr 5050 Qml 2) Qa) bW oV) fl
def aAL:T Lf:=ju 851 Qfg
abbrev Qmm:SE:=nm Qfi
def aiS:T Lf:=sp Qp (sp Qq fl (sp Qfh (sp (.eq Qb Qmm) (ou [Qm]) (ju 851 Qfy)) fl)) (ou [Qji])
def aAK:T Lf:=sp (.eq (a0 850 Po) Q0) (sp (.lt (rr 850 Po 0) Qa) bW oV) fl
abbrev X7:SB:=.eq fB Qa
abbrev Qmo:List SE:=[Qf,ln eF,Qb,Qo,Qm,bD,bU,dN,eF]
def aAJ:T Lf:=sp X7 (ju 951 Qmo) (ju 952 Qmo)
abbrev Qmp:SE:=cn Qh (cn lI (cn lI Qgd))
abbrev Qmq:List SE:=[Qf,Qb,Q0,Qo,Qm,bD,bU,dN,eF,fB,.op .snoc lI Qmp]
abbrev Qmr:List SE:=[Qf,Q0,Qa,Qa,Qm,Qa,Qa]
abbrev Qms:SB:=.eq (a0 1200 [Qm]) Q0
abbrev Qmt:SB:=.eq Qf (rr 1200 [Qm] 0)
abbrev Qmu:List SE:=[Qf,lI]
abbrev Qmv:SB:=.eq (a0 5150 Qmu) Q0
abbrev Qmw:SB:=.eq (rr 5150 Qmu 2) Qa
abbrev Qmx:T Lf:=sp (.eq Qm Qj3) oV oV
abbrev Qmy:T Lf:=sp Qms (sp Qmt (sp Qmv (sp Qmw bW (sp (.lt Yj (ln (rr 5150 Qmu 1))) bW Qmx)) fl) bW) fl
abbrev Qmz:T Lf:=sp (.eq (a0 12400 Qmr) Q0) (sp (.eq (rr 12400 Qmr 0) Qa) bW (sp (.eq (rr 12400 Qmr 0) Q0) Qmy fl)) fl
abbrev Qm0:List SE:=[Qa,Qa,Qf,Qa,Qa,Qa,Qm,Qa,Qa]
abbrev Qm1:SB:=.eq (a0 5200 Qmu) Q0
abbrev Qm2:SB:=.eq (rr 5200 Qmu 3) Qa
abbrev Qm3:List SE:=[Qf,Qa,Qa,Qa,Qm,Qa,Qa]
abbrev Qm4:T Lf:=sp Qlr Qmz (sp Qk6 Qmz (sp Qk7 Qmz (sp Qkz (sp (.eq (a0 12450 Qm0) Q0) (sp (.eq (rr 12450 Qm0 0) Qa) bW (sp (.eq (rr 12450 Qm0 0) Q0) (sp Qms (sp Qmt (sp Qm1 (sp Qm2 bW (sp (.lt Yj (ln (rr 5200 Qmu 2))) bW Qmx)) fl) bW) fl) fl)) fl) (sp (.eq (a0 12400 Qm3) Q0) (sp (.eq (rr 12400 Qm3 0) Qa) bW (sp (.eq (rr 12400 Qm3 0) Q0) Qmy fl)) fl))))
abbrev Qm5:SB:=.eq (rr 12500 Qmr 0) Qa
abbrev Qm6:SB:=.eq (rr 12500 Qmr 0) Q0
abbrev Qm7:SE:=.dat (.p (.i 97) (.i 0))
abbrev Qm8:SE:=cn Qm7 Qh
abbrev Qm9:SB:=.lt Yj (ln (.op .D7 (rr 5150 Qmu 1) Qm8))
abbrev Qna:T Lf:=sp Qms (sp Qmt (sp Qmv (sp Qmw bW (sp Qm9 bW (sp (.eq Qm Qj3) bW bW))) fl) bW) fl
abbrev Qnb:T Lf:=sp (.eq (a0 12500 Qmr) Q0) (sp Qm5 bW (sp Qm6 Qna fl)) fl
abbrev Qnc:SB:=.eq (rr 12550 Qm0 0) Qa
abbrev Qnd:SB:=.eq (rr 12550 Qm0 0) Q0
abbrev Qne:SB:=.lt Yj (ln (.op .D7 (rr 5200 Qmu 2) Qm8))
abbrev Qnf:SB:=.eq (rr 12500 Qm3 0) Qa
abbrev Qng:SB:=.eq (rr 12500 Qm3 0) Q0
def asG:T Lf:=sp Qf6 (ju 953 Qmq) (sp (.eq bU Qji) Qm4 (sp Qlr Qnb (sp Qk6 Qnb (sp Qk7 Qnb (sp Qkz (sp (.eq (a0 12550 Qm0) Q0) (sp Qnc bW (sp Qnd (sp Qms (sp Qmt (sp Qm1 (sp Qm2 bW (sp Qne bW (sp (.eq Qm Qj3) bW bW))) fl) bW) fl) fl)) fl) (sp (.eq (a0 12500 Qm3) Q0) (sp Qnf bW (sp Qng Qna fl)) fl))))))
abbrev Qnh:T Lf:=sp Qms (sp Qmt (sp Qmv (sp Qmw bW (sp Qm9 bW Qmx)) fl) bW) fl
abbrev Qni:T Lf:=sp (.eq (a0 12500 Qmr) Q0) (sp Qm5 bW (sp Qm6 Qnh fl)) fl
def asF:T Lf:=sp Qf6 (ju 954 Qmq) (sp (.eq bU Qji) Qm4 (sp Qlr Qni (sp Qk6 Qni (sp Qk7 Qni (sp Qkz (sp (.eq (a0 12550 Qm0) Q0) (sp Qnc bW (sp Qnd (sp Qms (sp Qmt (sp Qm1 (sp Qm2 bW (sp Qne bW Qmx)) fl) bW) fl) fl)) fl) (sp (.eq (a0 12500 Qm3) Q0) (sp Qnf bW (sp Qng Qnh fl)) fl))))))
abbrev Qnj:SB:=.lt (ln jQ) (.lit 2513169434915)
abbrev Qnk:List SE:=[Qf,Qb,mZ,Qm,bD,bU,dN,eF,fB,fF,.op .snoc jQ Qmp]
abbrev Qnl:List SE:=[Qf,Q0,Qa,Qa,bD,Qa,jQ,Qa]
abbrev Qnm:SB:=.eq (a0 1200 [bD]) Q0
abbrev Qnn:SB:=.eq Qf (rr 1200 [bD] 0)
abbrev Qno:List SE:=[rr 12600 Qnl 9,rr 12600 Qnl 10,Qf,lI]
abbrev Qnp:T Lf:=sp (.eq bD Qj3) oV oV
abbrev Qnq:T Lf:=sp (.eq (a0 12600 Qnl) Q0) (sp (.eq (rr 12600 Qnl 0) Qa) bW (sp (.eq (rr 12600 Qnl 0) Q0) (sp Qnm (sp Qnn (sp (.eq (a0 5300 Qno) Q0) (sp (.eq (rr 5300 Qno 3) Qa) bW (sp (.lt Yj (ln (rr 5300 Qno 2))) bW Qnp)) fl) bW) fl) fl)) fl
abbrev Qnr:List SE:=[Qa,Qa,Qf,Qa,Qa,Qa,bD,Qa,jQ,Qa]
abbrev Qns:List SE:=[rr 12650 Qnr 11,rr 12650 Qnr 12,Qf,lI]
abbrev Qnt:List SE:=[Qf,Qa,Qa,Qa,bD,Qa,jQ,Qa]
abbrev Qnu:List SE:=[rr 12600 Qnt 9,rr 12600 Qnt 10,Qf,lI]
abbrev Qnv:T Lf:=sp Qlr Qnq (sp Qk6 Qnq (sp Qk7 Qnq (sp Qkz (sp (.eq (a0 12650 Qnr) Q0) (sp (.eq (rr 12650 Qnr 0) Qa) bW (sp (.eq (rr 12650 Qnr 0) Q0) (sp Qnm (sp Qnn (sp (.eq (a0 5350 Qns) Q0) (sp (.eq (rr 5350 Qns 4) Qa) bW (sp (.lt Yj (ln (rr 5350 Qns 3))) bW Qnp)) fl) bW) fl) fl)) fl) (sp (.eq (a0 12600 Qnt) Q0) (sp (.eq (rr 12600 Qnt 0) Qa) bW (sp (.eq (rr 12600 Qnt 0) Q0) (sp Qnm (sp Qnn (sp (.eq (a0 5300 Qnu) Q0) (sp (.eq (rr 5300 Qnu 3) Qa) bW (sp (.lt Yj (ln (rr 5300 Qnu 2))) bW Qnp)) fl) bW) fl) fl)) fl))))
abbrev Qnw:SB:=.eq (rr 12700 Qnl 0) Qa
abbrev Qnx:SB:=.eq (rr 12700 Qnl 0) Q0
abbrev Qny:List SE:=[rr 12700 Qnl 9,rr 12700 Qnl 10,Qf,lI]
abbrev Qnz:SB:=.eq (rr 5300 Qny 3) Qa
abbrev Qn0:SB:=.lt Yj (ln (.op .D7 (rr 5300 Qny 2) Qm8))
abbrev Qn1:T Lf:=sp (.eq bD Qj3) bW bW
abbrev Qn2:T Lf:=sp (.eq (a0 12700 Qnl) Q0) (sp Qnw bW (sp Qnx (sp Qnm (sp Qnn (sp (.eq (a0 5300 Qny) Q0) (sp Qnz bW (sp Qn0 bW Qn1)) fl) bW) fl) fl)) fl
abbrev Qn3:SB:=.eq (rr 12750 Qnr 0) Qa
abbrev Qn4:SB:=.eq (rr 12750 Qnr 0) Q0
abbrev Qn5:List SE:=[rr 12750 Qnr 11,rr 12750 Qnr 12,Qf,lI]
abbrev Qn6:SB:=.eq (rr 5350 Qn5 4) Qa
abbrev Qn7:SB:=.lt Yj (ln (.op .D7 (rr 5350 Qn5 3) Qm8))
abbrev Qn8:SB:=.eq (rr 12700 Qnt 0) Qa
abbrev Qn9:SB:=.eq (rr 12700 Qnt 0) Q0
abbrev Qoa:List SE:=[rr 12700 Qnt 9,rr 12700 Qnt 10,Qf,lI]
abbrev Qob:SB:=.eq (rr 5300 Qoa 3) Qa
abbrev Qoc:SB:=.lt Yj (ln (.op .D7 (rr 5300 Qoa 2) Qm8))
def vU:T Lf:=sp yZ (sp Qnj (ju 953 Qnk) fl) (sp (.eq dN Qji) Qnv (sp Qlr Qn2 (sp Qk6 Qn2 (sp Qk7 Qn2 (sp Qkz (sp (.eq (a0 12750 Qnr) Q0) (sp Qn3 bW (sp Qn4 (sp Qnm (sp Qnn (sp (.eq (a0 5350 Qn5) Q0) (sp Qn6 bW (sp Qn7 bW Qn1)) fl) bW) fl) fl)) fl) (sp (.eq (a0 12700 Qnt) Q0) (sp Qn8 bW (sp Qn9 (sp Qnm (sp Qnn (sp (.eq (a0 5300 Qoa) Q0) (sp Qob bW (sp Qoc bW Qn1)) fl) bW) fl) fl)) fl))))))
abbrev Qod:T Lf:=sp (.eq (a0 12700 Qnl) Q0) (sp Qnw bW (sp Qnx (sp Qnm (sp Qnn (sp (.eq (a0 5300 Qny) Q0) (sp Qnz bW (sp Qn0 bW Qnp)) fl) bW) fl) fl)) fl
def vT:T Lf:=sp yZ (sp Qnj (ju 954 Qnk) fl) (sp (.eq dN Qji) Qnv (sp Qlr Qod (sp Qk6 Qod (sp Qk7 Qod (sp Qkz (sp (.eq (a0 12750 Qnr) Q0) (sp Qn3 bW (sp Qn4 (sp Qnm (sp Qnn (sp (.eq (a0 5350 Qn5) Q0) (sp Qn6 bW (sp Qn7 bW Qnp)) fl) bW) fl) fl)) fl) (sp (.eq (a0 12700 Qnt) Q0) (sp Qn8 bW (sp Qn9 (sp Qnm (sp Qnn (sp (.eq (a0 5300 Qoa) Q0) (sp Qob bW (sp Qoc bW Qnp)) fl) bW) fl) fl)) fl))))))
def akB:T Lf:=sp (.eq (a0 1050 [Qf,Qa]) Q0) (sp (.eq (rr 1050 [Qf,Qa] 6) Qa) (sp (.eq (rr 1050 [Qf,Qa] 0) nV) (sp (.eq (wr (.sub (rr 1050 [Qf,Qa] 5) (rr 1050 [Qf,Qa] 4))) vP) oV bW) bW) bW) fl
abbrev Qoe:T Lf:=ou [Qa,lI,Qa,Qa,Qa,Qa,nV,Qa]
abbrev Qof:SE:=rr 12800 Po 3
abbrev Qog:SE:=wr (.add (.op .cnt (.op .sub Qf (cn lI (cn (mk Qof) lI))) Qit) Q0)
abbrev Qoh:SE:=rr 12850 [Qf,Qof] 3
abbrev Qoi:SE:=.op .sub Qf (cn (mk Qof) (cn (mk Qoh) lI))
abbrev Qoj:SE:=nm (el Qoi Qa)
abbrev Qok:SE:=.lit 256
abbrev Qol:SE:=nm (el (.dat b0) Qoj)
abbrev Qom:T Lf:=ou [Qa,lI,Qa,Qa,Qa,Qa,.lit 100,Qog]
abbrev Qon:SE:=.dat (.p (.i 32) (.i 0))
abbrev Qoo:SB:=.eq (.op .norm Qoi Qa) (.dat (.p (.i 61) (.i 0)))
def V7:T Lf:=sp (.lt (.lit 16384) vP) (ou [Qa,lI,Qa,Qa,Qa,Qa,wR,Qa]) (sp Qe2 Qoe (sp (.lt vP Qb) Qoe (sp (.eq (a0 12800 Po) Q0) (sp (.eq (rr 12800 Po 0) Qa) (sp (.lt Qof Qa) fl (sp (.lt vP Qof) fl (sp (.eq Qof vP) (ou [Qch,lI,Qa,Qog,Qof,Qof,Qa,Qa]) (sp (.eq (a0 12850 [Qf,Qof]) Q0) (sp (.eq (rr 12850 [Qf,Qof] 0) Qa) (sp (.lt Qoh Qof) fl (sp (.lt vP Qoh) fl (sp (.lt Qa (ln Qoi)) (sp (.lt Qoj Qa) fl (sp (.lt Qoj Qok) (sp (.eq Qol wR) (sp (.eq (a0 1100 [Qoi]) Q0) (sp (.eq (rr 1100 [Qoi] 1) Qa) Qom (ou [Q0,lI,rr 1100 [Qoi] 0,Qog,Qof,Qoh,Qa,Qa])) fl) (sp (.eq Qol sF) (sp (.lt (ln Qoi) (.lit 1000000000)) (sp (.lt (ln (.op .cat Qon Qoi)) (.lit 1000000000)) (sp (.eq (.op .con (.dat b1) (.op .cat (.op .cat Qon Qoi) Qon)) Qa) (sp Qoo Qom (ou [nV,Qoi,Qa,Qog,Qof,Qoh,Qa,Qa])) (sp Qoo Qom (ou [wR,Qoi,Qa,Qog,Qof,Qoh,Qa,Qa]))) fl) fl) (sp (.eq Qol Qch) (sp Qoo Qom (ou [sF,Qoi,Qa,Qog,Qof,Qoh,Qa,Qa])) Qom))) fl)) fl))) fl) fl)))) fl) fl)))
def akA:T Lf:=sp (.eq vP Qa) (ju 1101 []) (ju 1102 [Qa,Qf,vP,Qa])
def ayG:T Lf:=ou [Qa,Q0]
abbrev Qop:SE:=.lit 9223372036854775807
abbrev Qoq:SE:=wr (.wrap .u8 (.sub Qla (.lit 48)))
def abQ:T Lf:=sp Qp (sp Qq fl (sp Qr (sp (.lt (wr (.quo (wr (.sub Qop Qoq)) Qit)) Qf) (ou [Qa,Qa]) (ju 1102 [wr (.add (wr (.mul Qf Qit)) Qoq),Qb,Qo,Q1])) fl)) (ou [Qf,Q0])
abbrev Qor:SB:=.eq (rr 1000 [Qb] 0) Qa
abbrev Qos:SE:=wr (.sub Pz Q0)
abbrev Qot:SE:=.dat (.p (.i 45) (.i 0))
abbrev Qou:SE:=.dat (.p (.i 43) (.i 0))
abbrev Qov:SE:=.dat (.p (.i 42) (.i 0))
abbrev Qow:SE:=.dat (.p (.i 61) (.p (.i 61) (.i 0)))
abbrev Qox:SE:=.dat (.p (.i 60) (.i 0))
def ajZ:T Lf:=sp Qk8 (sp wQ bW (sp (.eq Qg lI) (sp (.eq Pz Qa) oV bW) bW)) (sp Qk5 (sp (.eq Qo Qa) (sp (.eq Pz Qa) (sp (.eq (a0 1000 [Qb]) Q0) (sp Qor bW oV) fl) bW) bW) (sp Qlr (sp (.eq Qo Qa) (sp (.lt Pz Q0) bW (sp (.lt nV Pz) bW (sp (.lt Qos Qa) fl (sp (.lt Qos nV) (sp (.eq Qos Qa) (sp (.eq Qg Qot) oV bW) (sp (.eq Qg Qou) oV (sp (.eq Qg Qot) oV (sp (.eq Qg Qov) oV (sp (.eq Qg Qow) oV (sp (.eq Qg Qox) oV bW)))))) fl)))) bW) bW))
def ajY:T Lf:=sp (.lt sF Qf) (sp (.lt (.lit 8) Qf) (sp (.lt (.lit 11) Qf) (sp (.lt (.lit 14) Qf) (sp (.eq Qf (.lit 15)) (ou [Qch]) (sp (.eq Qf Qj3) (ou [Yn]) (sp (.lt (.lit 19) Qf) (sp (.lt (.lit 21) Qf) (ou [Qgh]) (ou [.lit 8])) (ou [Qil])))) Qlt) (ou [wR])) Qls) oV
def ajX:T Lf:=sp Qkz oV (sp (.eq Qf (.lit 17)) oV (sp (.eq Qf Yj) oV (sp (.eq Qf (.lit 23)) oV bW)))
def ajW:T Lf:=sp Qlr oV (sp Qkz oV (sp (.eq Qf (.lit 11)) oV (sp (.eq Qf (.lit 21)) oV (sp (.eq Qf (.lit 22)) oV bW))))
def ajV:T Lf:=sp Qlr oV (sp Qk7 oV (sp Qk6 oV (sp (.eq Qf Qgh) oV bW)))
abbrev Qoy:SE:=.op .norm Qm Qa
abbrev Qoz:T Lf:=sp Qkz (sp (.eq (a0 1000 [Qm]) Q0) (sp (.eq (rr 1000 [Qm] 0) Qa) bW oV) fl) (sp (.eq Qoy lI) oV bW)
def ajU:T Lf:=sp (.lt Qf Q0) bW (sp (.lt Qgh Qf) bW (sp (.eq (a0 1000 [Qb]) Q0) (sp Qor bW (sp wQ bW (sp (.lt Qa Qo) (sp (.eq (a0 1350 Qj) Q0) (sp (.eq (rr 1350 Qj 0) Qa) bW Qoz) fl) Qoz))) fl))
def abP:T Lf:=sp Qf4 (sp Qf5 (sp (.eq (a0 300 Po) Q0) (ju 1451 [Qb,Qc,rr 300 Po 0]) fl) (ou [Qh,Qh,rr 450 Po 0])) fl
abbrev Qo0:SE:=ce 1 Qf8
abbrev Qo1:SE:=cn lI (cn lI (cn lI (cn lI lI)))
abbrev Qo2:SB:=.lt (ln Qo0) Qv
def V6:T Lf:=sp Qf6 (sp Qf7 (sp (.eq (ln Qo0) Qa) (ju 1452 [Qf,Qb,Q0,Qo,.op .snoc lI (cn lI (cn Qk Qo1))]) (sp Qo2 (ju 1452 [Qf,Qb,Q0,Qo,.op .snoc lI (cn lI (cn (.op .rep (ln Qo0) lI) Qo1))]) fl)) fl) (ou [Qo,Qh,Qa])
abbrev Qo3:SE:=.lit 2199023255551
abbrev Qo4:SB:=.lt (ln VH) Qv
abbrev Qo5:T Lf:=ou [Qm,bD,Qa]
def V5:T Lf:=sp yZ (sp wQ fl (sp Qfz (sp (.eq (ln VH) Qa) (sp (.lt Qdi Qo3) (ju 1452 [Qf,Qb,mZ,Qm,.op .snoc bD (cn lI (cn Qk Qo1))]) fl) (sp Qo4 (sp (.lt Qdi Qo3) (ju 1452 [Qf,Qb,mZ,Qm,.op .snoc bD (cn lI (cn (.op .rep (ln VH) lI) Qo1))]) fl) fl)) fl)) Qo5
def ajT:T Lf:=sp Qgw (sp Qgx bW (sp (.eq Pz Qc) (ju 1501 [Qm,Pz,Qa,Qf,Qb]) bW)) fl
abbrev Qo6:List SE:=[Qm,bD,ce 0 Qdl,Qdm,ce 2 Qdl,Qgl,VH,Qgk,nm Qgn,nm Qgo,nm Qgp]
def abO:T Lf:=sp yZ (sp wQ fl (sp Qfz (sp Qdk (sp (.eq (a0 1600 Qo6) Q0) (sp (.eq (rr 1600 Qo6 0) Qa) bW (ju 1501 [Qf,Qb,mZ,Qm,bD])) fl) fl) fl)) oV
abbrev Qo7:SB:=.lt bD Qc
abbrev Qo8:List SE:=[Qf,Qb,Qo,Qm]
abbrev Qo9:T Lf:=sp (.eq (a0 1500 Qo8) Q0) (sp (.eq (rr 1500 Qo8 0) Qa) bW oV) fl
def ajS:T Lf:=sp Qlw bW (sp Qo7 Qo9 bW)
def ajR:T Lf:=sp Qfp bW (sp (.lt Qdi bU) bW (sp (.eq Qfc Pz) (sp (.lt jQ Qa) bW (sp (.lt Qj1 jQ) bW (sp Qk1 (sp X7 (sp (.eq fF Qa) oV bW) bW) (sp (.eq eF Qj0) (sp Qkx bW (sp (.lt fB vP) (sp (.eq (nm (ce 0 (el Qf fB))) sF) oV bW) bW)) (sp (.eq eF Qj2) (sp Qkx bW (sp (.lt fB vP) (sp (.eq (nm (ce 0 (el Qf fB))) Qch) oV bW) bW)) bW))))) bW))
abbrev Qpa:SE:=el Qm bD
abbrev Qpb:SE:=nm (ce 2 Qpa)
abbrev Qpc:SE:=nm (ce 0 Qpa)
abbrev Qpd:SE:=el Qb bD
abbrev Qpe:SB:=.eq Qpc (ln (ce 2 Qpd))
def ajQ:T Lf:=sp Qlw fl (sp (.lt bD Pz) (sp (.eq Qpb Qa) (sp Qo7 (sp Qpe oV bW) fl) bW) fl)
abbrev O4:SB:=.eq (a0 1550 Qkw) Q0
abbrev O1:SB:=.eq (rr 1550 Qkw 0) Qa
abbrev Qph:SB:=.eq (rr 1650 Qkw 0) Qa
def V4:T Lf:=sp O4 (sp O1 bW (sp (.eq (a0 1650 Qkw) Q0) (sp Qph bW oV) fl)) fl
abbrev Qpi:SE:=el (ce 2 Qpd) Qpc
abbrev Qpj:T Lf:=ou [Qa,Qa,Qa,Qa,Qa]
def Lu:T Lf:=sp Qlw fl (sp (.lt bD Pz) (sp (.eq Qpb Qa) (sp (.eq (a0 1650 Qkw) Q0) (sp Qph (sp Qo7 (sp (.lt Qpc Qa) fl (sp (.lt Qpc (ln (ce 2 Qpd))) (sp (.eq (nm (ce 0 Qpi)) Q0) (ju 1751 [ce 6 Qpi,ln (ce 6 Qpi),Qa,Qpc,ce 1 Qpa,Qpb,nm (ce 3 Qpa),nm (ce 4 Qpa),nm (ce 5 Qpa),nm (ce 1 Qpi),nm (ce 2 Qpi),Qa]) (sp (.eq (nm (ce 0 Qpi)) nV) (ou [.lit 26,nm (ce 2 Qpi),Qa,Qa,Q0]) Qpj)) fl)) fl) Qpj) fl) (ou [Qpb,nm (ce 3 Qpa),nm (ce 4 Qpa),Qa,Q0])) fl)
def abN:T Lf:=sp yZ (sp wQ fl (sp Qfz (sp (.eq (a0 1950 [Qgl,VH,Qgk,Qgn,bD]) Q0) (ju 1751 [Qf,Qb,mZ,Qm,bD,bU,dN,eF,fB,fF,jQ,rr 1950 [Qgl,VH,Qgk,Qgn,bD] 0]) fl) fl)) (ou [fF,jQ,jP,fB,Q0])
abbrev OZ:List SE:=[bD,Qo,Qm]
abbrev rO:SE:=rr 9050 OZ 0
abbrev ED:SE:=rr 9050 OZ 2
abbrev VG:SE:=rr 9050 OZ 3
abbrev Qpo:List SE:=[Qf,Qb,ED,VG,bD]
abbrev Qpp:List SE:=[Qf,Qb,ED,Qh,bD]
abbrev Qpq:List SE:=[Qf,Qb,ED,Qk,bD]
abbrev Qpr:SE:=mk bD
abbrev Qps:SE:=rr 9050 OZ 4
abbrev Qpt:SE:=rr 9050 OZ 5
abbrev Qpu:SE:=rr 9050 OZ 6
abbrev Qpv:SE:=rr 9050 OZ 7
abbrev Qpw:SE:=rr 9050 OZ 8
abbrev Qpx:SE:=rr 9050 OZ 9
abbrev Qpy:SE:=cn (mk Qpu) (cn (mk Qpv) (cn (mk Qpw) (cn (mk Qpx) lI)))
abbrev Qpz:SE:=.op .set VG (cn Qpr (cn (mk Qps) (cn Qpt Qpy)))
abbrev Qp0:T Lf:=ou [ED,Qpz,Qa,Qa,Qa,Qa,Qa,Qa]
abbrev Tv:List SE:=[Qf,Qb,ED,Qpz,bD]
abbrev Qp2:SB:=.eq (rr 1650 Tv 0) Qa
abbrev Qp3:SB:=.eq (rr 1750 Tv 4) Qa
abbrev Qp4:List SE:=[Qf,Qb,bD,ED,VG,Qps,Qpt,Qpu,Qpv,Qpw,Qpx]
abbrev rP:List SE:=[Qf,Qb,bD,rr 1750 Tv 0,rr 1750 Tv 1,rr 1750 Tv 2,rr 1750 Tv 3,ED,VG,Qps,Qpt,Qpu,Qpv,Qpw,Qpx]
abbrev Qp6:T Lf:=ou [ED,Qpz,Qa,Qa,Qa,Qa,Qa,sF]
def Jf:T Lf:=sp (.eq (a0 9050 OZ) Q0) (sp (.eq rO Qa) (sp O4 (sp O1 (ou [ED,VG,Qa,Qa,Qa,Qa,Qa,Qa]) (sp (.eq (a0 1650 Qpo) Q0) (sp (.eq (rr 1650 Qpo 0) Qa) (sp (.eq (a0 1750 Qpo) Q0) (sp (.eq (rr 1750 Qpo 4) Qa) fl fl) fl) (ou [ED,VG,Qa,Qa,Qa,Qa,Qa,sF])) fl)) fl) (sp (.eq rO Q0) (sp O4 (sp O1 (ou [ED,Qh,Qa,Qa,Qa,Qa,Qa,Qa]) (sp (.eq (a0 1650 Qpp) Q0) (sp (.eq (rr 1650 Qpp 0) Qa) (sp (.eq (a0 1750 Qpp) Q0) (sp (.eq (rr 1750 Qpp 4) Qa) fl fl) fl) (ou [ED,Qh,Qa,Qa,Qa,Qa,Qa,sF])) fl)) fl) (sp (.eq rO nV) (sp O4 (sp O1 (ou [ED,Qk,Qa,Qa,Qa,Qa,Qa,Qa]) (sp (.eq (a0 1650 Qpq) Q0) (sp (.eq (rr 1650 Qpq 0) Qa) (sp (.eq (a0 1750 Qpq) Q0) (sp (.eq (rr 1750 Qpq 4) Qa) fl fl) fl) (ou [ED,Qk,Qa,Qa,Qa,Qa,Qa,sF])) fl)) fl) (sp (.eq rO wR) (sp O4 (sp O1 Qp0 (sp (.eq (a0 1650 Tv) Q0) (sp Qp2 (sp (.eq (a0 1750 Tv) Q0) (sp Qp3 (sp (.eq (a0 14000 Qp4) Q0) (sp (.eq (rr 14000 Qp4 0) Qa) (ou [ED,.op .set VG (cn Qpr (cn (mk (rr 14000 Qp4 12)) (cn (rr 14000 Qp4 13) Qpy))),Qa,Qa,Qa,Qa,Qa,Q0]) fl) fl) (sp (.eq (a0 14500 rP) Q0) (sp (.eq (rr 14500 rP 0) Qa) (ou [rr 14500 rP 22,.op .set VG (cn Qpr (cn (mk (rr 14500 rP 23)) (cn (rr 14500 rP 24) (cn (mk (rr 14500 rP 25)) (cn (mk (rr 14500 rP 26)) (cn (mk (rr 14500 rP 27)) (cn (mk (rr 14500 rP 28)) lI))))))),rr 14500 rP 16,rr 14500 rP 17,rr 14500 rP 18,rr 14500 rP 19,rr 14500 rP 20,rr 14500 rP 21]) fl) fl)) fl) Qp6) fl)) fl) (sp (.eq rO sF) (sp O4 (sp O1 Qp0 (sp (.eq (a0 1650 Tv) Q0) (sp Qp2 (sp (.eq (a0 1750 Tv) Q0) (sp Qp3 (sp (.eq (a0 14050 Qp4) Q0) (sp (.eq (rr 14050 Qp4 0) Qa) (ou [ED,.op .set VG (cn Qpr (cn (mk (rr 14050 Qp4 12)) (cn Qpt Qpy))),Qa,Qa,Qa,Qa,Qa,Q0]) fl) fl) (sp (.eq (a0 14550 rP) Q0) (sp (.eq (rr 14550 rP 0) Qa) (ou [rr 14550 rP 22,.op .set VG (cn Qpr (cn (mk (rr 14550 rP 23)) (cn Qpt (cn (mk (rr 14550 rP 24)) (cn (mk (rr 14550 rP 25)) (cn (mk (rr 14550 rP 26)) (cn (mk (rr 14550 rP 27)) lI))))))),rr 14550 rP 16,rr 14550 rP 17,rr 14550 rP 18,rr 14550 rP 19,rr 14550 rP 20,rr 14550 rP 21]) fl) fl)) fl) Qp6) fl)) fl) fl))))) fl
abbrev Qp7:SB:=.lt Qc (.lit 2199023255552)
abbrev Qp8:List SE:=[vP,Qa,Qf]
def PU:T Lf:=sp Qf7 (sp Qlh (sp Qd (sp Qp7 (ju 1901 [vP,Qa,Qf,Qb]) fl) (sp Qi (ju 1902 Qp8) (sp Ql (ju 1903 Qp8) fl))) fl) (sp Qli (sp Qd (sp Qp7 (ju 1904 [Qb]) fl) (sp Qi (ju 1905 []) (sp Ql (ju 1906 []) fl))) (sp Qlj (sp Qd (sp Qp7 (ju 1907 [Qb]) fl) (sp Qi (ju 1908 []) (sp Ql (ju 1909 []) fl))) fl))
abbrev Qp9:SB:=.lt Qb Qf
abbrev Qqa:SB:=.lt Qb Qcl
abbrev Qqb:SE:=el Qo Qb
abbrev Qqc:SE:=ce 4 Qqb
abbrev Qqd:SB:=.lt Qa (ln Qqc)
abbrev Qqe:SB:=.lt (ln Qqc) Qv
abbrev Qqf:SE:=ce 5 Qqb
abbrev Qqg:SB:=.lt Qa (ln Qqf)
abbrev Qqh:SB:=.lt (ln Qqf) Qv
abbrev Tt:SE:=mk Qb
abbrev Qqj:SE:=.op .set Qo (cn Tt (.op .set Qqb (cn Qbd Qqc)))
abbrev Qqk:SE:=.op .set Qqj (cn Tt (.op .set (el Qqj Qb) (cn Qbf Qqf)))
abbrev Qql:SB:=.eq Qqf Qh
abbrev Qqm:SE:=.op .set Qqj (cn Tt (.op .set (el Qqj Qb) Qbh))
abbrev Qqn:SB:=.eq Qqf Qk
abbrev Qqo:SE:=.op .set Qqj (cn Tt (.op .set (el Qqj Qb) Qbj))
abbrev Qqp:SE:=.op .set Qo (cn Tt (.op .set Qqb Qbl))
abbrev Qqq:SE:=.op .set Qqp (cn Tt (.op .set (el Qqp Qb) (cn Qbf Qqf)))
abbrev Qqr:SE:=.op .set Qqp (cn Tt (.op .set (el Qqp Qb) Qbh))
abbrev Qqs:SE:=.op .set Qqp (cn Tt (.op .set (el Qqp Qb) Qbj))
abbrev Qqt:SE:=.op .set Qo (cn Tt (.op .set Qqb Qbq))
abbrev Qqu:SE:=.op .set Qqt (cn Tt (.op .set (el Qqt Qb) (cn Qbf Qqf)))
abbrev Qqv:SE:=.op .set Qqt (cn Tt (.op .set (el Qqt Qb) Qbh))
abbrev Qqw:SE:=.op .set Qqt (cn Tt (.op .set (el Qqt Qb) Qbj))
def abM:T Lf:=sp Qp9 (sp Qe2 fl (sp Qqa (sp Qqd (sp Qqe (sp Qqg (sp Qqh (ju 1901 [Qf,wL,Qqk,Qm]) fl) (sp Qql (ju 1901 [Qf,wL,Qqm,Qm]) (sp Qqn (ju 1901 [Qf,wL,Qqo,Qm]) fl))) fl) (sp (.eq Qqc Qh) (sp Qqg (sp Qqh (ju 1901 [Qf,wL,Qqq,Qm]) fl) (sp Qql (ju 1901 [Qf,wL,Qqr,Qm]) (sp Qqn (ju 1901 [Qf,wL,Qqs,Qm]) fl))) (sp (.eq Qqc Qk) (sp Qqg (sp Qqh (ju 1901 [Qf,wL,Qqu,Qm]) fl) (sp Qql (ju 1901 [Qf,wL,Qqv,Qm]) (sp Qqn (ju 1901 [Qf,wL,Qqw,Qm]) fl))) fl))) fl)) (ju 1910 [Pz,Qa,Qo,Qm])
def abL:T Lf:=sp Qp9 (sp Qe2 fl (sp Qqa (sp Qqd (sp Qqe (sp Qqg (sp Qqh (ju 1902 [Qf,wL,Qqk]) fl) (sp Qql (ju 1902 [Qf,wL,Qqm]) (sp Qqn (ju 1902 [Qf,wL,Qqo]) fl))) fl) (sp (.eq Qqc Qh) (sp Qqg (sp Qqh (ju 1902 [Qf,wL,Qqq]) fl) (sp Qql (ju 1902 [Qf,wL,Qqr]) (sp Qqn (ju 1902 [Qf,wL,Qqs]) fl))) (sp (.eq Qqc Qk) (sp Qqg (sp Qqh (ju 1902 [Qf,wL,Qqu]) fl) (sp Qql (ju 1902 [Qf,wL,Qqv]) (sp Qqn (ju 1902 [Qf,wL,Qqw]) fl))) fl))) fl)) (ju 1911 [Qo])
def ayF:T Lf:=sp Qp9 (sp Qe2 fl (sp Qqa (sp Qqd (sp Qqe (sp Qqg (sp Qqh (ju 1903 [Qf,wL,Qqk]) fl) (sp Qql (ju 1903 [Qf,wL,Qqm]) (sp Qqn (ju 1903 [Qf,wL,Qqo]) fl))) fl) (sp (.eq Qqc Qh) (sp Qqg (sp Qqh (ju 1903 [Qf,wL,Qqq]) fl) (sp Qql (ju 1903 [Qf,wL,Qqr]) (sp Qqn (ju 1903 [Qf,wL,Qqs]) fl))) (sp (.eq Qqc Qk) (sp Qqg (sp Qqh (ju 1903 [Qf,wL,Qqu]) fl) (sp Qql (ju 1903 [Qf,wL,Qqv]) (sp Qqn (ju 1903 [Qf,wL,Qqw]) fl))) fl))) fl)) (ju 1912 [Qo])
def ajP:T Lf:=ju 1913 Qp8
def ayE:T Lf:=ju 1914 []
def ayD:T Lf:=ju 1915 []
def ayC:T Lf:=ju 1916 Qp8
def ayB:T Lf:=ju 1917 []
def ayA:T Lf:=ju 1918 []
abbrev Qqx:SE:=el Qm Qb
abbrev Qqy:SE:=ce 1 Qqx
def abK:T Lf:=sp Qp9 (sp Qe2 fl (sp (.lt Qb Pz) (sp (.lt Qa (ln Qqy)) (sp (.lt (ln Qqy) Qv) (ju 1910 [Qf,wL,Qo,.op .set Qm (cn Tt (.op .set Qqx (cn Qh Qqy)))]) fl) (sp (.eq Qqy Qh) (ju 1910 [Qf,wL,Qo,.op .set Qm (cn Tt (.op .set Qqx Qdy))]) (sp (.eq Qqy Qk) (ju 1910 [Qf,wL,Qo,.op .set Qm (cn Tt (.op .set Qqx Qd0))]) fl))) fl)) (ou [Qo,Qm])
def axZ:T Lf:=ou [Qf,Qh]
def axY:T Lf:=ou [Qf,Qk]
abbrev Qqz:SE:=ce 1 Qqb
abbrev Qq0:List SE:=[Qf,wL,.op .set Qo (cn Tt (.op .set Qqb (cn Qh Qqz)))]
abbrev Qq1:List SE:=[Qf,wL,.op .set Qo (cn Tt (.op .set Qqb Qdy))]
abbrev Qq2:List SE:=[Qf,wL,.op .set Qo (cn Tt (.op .set Qqb Qd0))]
def abJ:T Lf:=sp Qp9 (sp Qe2 fl (sp Qqa (sp (.lt Qa (ln Qqz)) (sp (.lt (ln Qqz) Qv) (ju 1913 Qq0) fl) (sp (.eq Qqz Qh) (ju 1913 Qq1) (sp (.eq Qqz Qk) (ju 1913 Qq2) fl))) fl)) (ou [Qh,Qo])
def axX:T Lf:=ou [Qh,Qh]
def axW:T Lf:=ou [Qh,Qk]
def axV:T Lf:=sp Qp9 (sp Qe2 fl (sp Qqa (sp (.lt Qa (ln Qqz)) (sp (.lt (ln Qqz) Qv) (ju 1916 Qq0) fl) (sp (.eq Qqz Qh) (ju 1916 Qq1) (sp (.eq Qqz Qk) (ju 1916 Qq2) fl))) fl)) (ou [Qk,Qo])
def axU:T Lf:=ou [Qk,Qh]
def axT:T Lf:=ou [Qk,Qk]
abbrev Qq3:SE:=el Qm Qa
abbrev Qq4:List SE:=[nm (ce 0 Qq3),ce 1 Qq3,nm (ce 2 Qq3),ce 3 Qq3,bD]
abbrev Qq5:SE:=rr 1950 Qq4 0
abbrev Qq6:SE:=el Qm Q0
abbrev Qq7:List SE:=[nm (ce 0 Qq6),ce 1 Qq6,nm (ce 2 Qq6),ce 3 Qq6,bD]
abbrev Qq8:SE:=rr 1950 Qq7 0
abbrev Qq9:SE:=.op .D7 (.op .D7 (.op .D7 lI (cn Qou (mk (wr (.add Qq5 Qq8))))) (cn Qot (mk (wr (.sub Qq5 Qq8))))) (cn Qov (mk (wr (.mul Qq5 Qq8))))
abbrev Qra:T Lf:=sp (.eq (.op .JU Qq9 Qg) Qa) bW (ou [nm (.op .JV Qq9 Qg)])
def V3:T Lf:=sp Qk8 (ou [Qo]) (sp Qk5 (sp wQ bW (sp Qdk (ou [nm Qdl]) bW)) (sp Qlr (sp (.eq Pz Q0) (sp (.eq Qg Qot) (sp (.eq (a0 1950 Qq4) Q0) (ou [wr (.sub Qa Qq5)]) fl) bW) (sp (.eq Pz nV) (sp (.eq (a0 1950 Qq4) Q0) (sp (.eq (a0 1950 Qq7) Q0) (sp (.eq Qg Qow) (sp (.eq Qq5 Qq8) oV Qra) (sp (.eq Qg Qox) (sp (.lt Qq5 Qq8) oV Qra) Qra)) fl) fl) bW)) bW))
abbrev Qrb:List SE:=[bD,Qf,Qb,Qo,Qm,bU,dN,eF,fB,ED]
abbrev Qrc:List SE:=[bD,Qa,Qf,Qb,Qo,Qm,bU,dN,eF,fB,ED,VG,Qps,Qpt,Qpu,Qpv,Qpw,Qpx]
def abI:T Lf:=sp (.eq (a0 9050 OZ) Q0) (sp (.eq rO Qa) (sp O4 (sp O1 (ou [ED,VG,Qa]) (ju 2001 [bD,Qf,Qb,Qo,Qm,bU,dN,eF,fB,ED,VG])) fl) (sp (.eq rO Q0) (sp O4 (sp O1 (ou [ED,Qh,Qa]) (ju 2002 Qrb)) fl) (sp (.eq rO nV) (sp O4 (sp O1 (ou [ED,Qk,Qa]) (ju 2003 Qrb)) fl) (sp (.eq rO wR) (sp O4 (sp O1 (ou [ED,Qpz,Qa]) (ju 2004 Qrc)) fl) (sp (.eq rO sF) (sp O4 (sp O1 (ou [ED,Qpz,Qa]) (ju 2005 Qrc)) fl) fl))))) fl
abbrev Qrd:List SE:=[Qb,Qo,fF,jQ,Qf]
abbrev Qre:T Lf:=sp Ql1 (sp Qk1 fl fl) fl
abbrev Qrf:T Lf:=sp (.eq (a0 1900 [Qm,bD]) Q0) (ou [rr 1900 [Qm,bD] 0,rr 1900 [Qm,bD] 1,Qa]) fl
def axS:T Lf:=sp (.eq (a0 1650 Qrd) Q0) (sp (.eq (rr 1650 Qrd 0) Qa) (sp (.eq (a0 1750 Qrd) Q0) (sp (.eq (rr 1750 Qrd 4) Qa) fl Qre) fl) Qrf) fl
abbrev Qrg:List SE:=[Qb,Qo,fF,Qh,Qf]
def axR:T Lf:=sp (.eq (a0 1650 Qrg) Q0) (sp (.eq (rr 1650 Qrg 0) Qa) (sp (.eq (a0 1750 Qrg) Q0) (sp (.eq (rr 1750 Qrg 4) Qa) fl Qre) fl) Qrf) fl
abbrev Qrh:List SE:=[Qb,Qo,fF,Qk,Qf]
def axQ:T Lf:=sp (.eq (a0 1650 Qrh) Q0) (sp (.eq (rr 1650 Qrh 0) Qa) (sp (.eq (a0 1750 Qrh) Q0) (sp (.eq (rr 1750 Qrh 4) Qa) fl Qre) fl) Qrf) fl
abbrev Qri:T Lf:=sp (.eq (a0 1900 [bD,bU]) Q0) (ou [rr 1900 [bD,bU] 0,rr 1900 [bD,bU] 1,Qa]) fl
abbrev uK:List SE:=[Qo,Qm,jQ,.op .set jP (cn (mk Qf) (cn (mk nU) (cn mG (cn (mk oK) (cn (mk Fv) (cn (mk O5) (cn (mk O6) lI))))))),Qf]
abbrev Pn:SB:=.eq (rr 1650 uK 0) Qa
abbrev Pm:SB:=.eq (rr 1750 uK 4) Qa
abbrev Qrm:List SE:=[Qo,Qm,Qf,jQ,jP,nU,mG,oK,Fv,O5,O6]
abbrev lM:List SE:=[Qo,Qm,Qf,rr 1750 uK 0,rr 1750 uK 1,rr 1750 uK 2,Qj1,jQ,jP,nU,mG,oK,Fv,O5,O6]
abbrev fZ:List SE:=[Qo,Qm,Qf,rr 1750 uK 0,rr 1750 uK 1,rr 1750 uK 2,Qa,jQ,jP,nU,mG,oK,Fv,O5,O6]
abbrev Qrp:T Lf:=sp (.eq (a0 14500 fZ) Q0) (sp (.eq (rr 14500 fZ 0) Qa) (sp (.eq (rr 14500 fZ 21) Qa) Qri (sp (.and (.eq (rr 14500 fZ 16) Qf) (.and (.eq (rr 14500 fZ 17) dN) (.and (.eq (rr 14500 fZ 18) eF) (.and (.eq (rr 14500 fZ 19) fB) (.eq (rr 14500 fZ 20) fF))))) (ou [rr 14500 fZ 22,.op .set jP (cn (mk Qf) (cn (mk (rr 14500 fZ 23)) (cn (rr 14500 fZ 24) (cn (mk (rr 14500 fZ 25)) (cn (mk (rr 14500 fZ 26)) (cn (mk (rr 14500 fZ 27)) (cn (mk (rr 14500 fZ 28)) lI))))))),Q0]) Qri)) fl) fl
def abH:T Lf:=sp (.lt (.lit 20000) Qb) Qri (sp (.eq (a0 1650 uK) Q0) (sp Pn (sp (.eq (a0 1750 uK) Q0) (sp Pm (sp (.eq (a0 14000 Qrm) Q0) (sp (.eq (rr 14000 Qrm 0) Qa) (ju 2004 [Qf,wL,Qo,Qm,bD,bU,dN,eF,fB,fF,jQ,jP,rr 14000 Qrm 12,rr 14000 Qrm 13,oK,Fv,O5,O6]) fl) fl) (sp (.eq dN sF) (sp X7 (sp (.eq (a0 14500 lM) Q0) (sp (.eq (rr 14500 lM 0) Qa) (sp (.eq (rr 14500 lM 21) Qa) Qri (sp (.and (.eq (rr 14500 lM 16) Qf) (.and (.eq (rr 14500 lM 17) dN) (.and (.eq (rr 14500 lM 18) eF) (.and (.eq (rr 14500 lM 19) fB) (.eq (rr 14500 lM 20) fF))))) (ou [rr 14500 lM 22,.op .set jP (cn (mk Qf) (cn (mk (rr 14500 lM 23)) (cn (rr 14500 lM 24) (cn (mk (rr 14500 lM 25)) (cn (mk (rr 14500 lM 26)) (cn (mk (rr 14500 lM 27)) (cn (mk (rr 14500 lM 28)) lI))))))),Q0]) Qri)) fl) fl) Qrp) Qrp)) fl) Qri) fl)
abbrev Qrq:T Lf:=sp (.eq (a0 14550 fZ) Q0) (sp (.eq (rr 14550 fZ 0) Qa) (sp (.eq (rr 14550 fZ 21) Qa) Qri (sp (.and (.eq (rr 14550 fZ 16) Qf) (.and (.eq (rr 14550 fZ 17) dN) (.and (.eq (rr 14550 fZ 18) eF) (.and (.eq (rr 14550 fZ 19) fB) (.eq (rr 14550 fZ 20) fF))))) (ou [rr 14550 fZ 22,.op .set jP (cn (mk Qf) (cn (mk (rr 14550 fZ 23)) (cn mG (cn (mk (rr 14550 fZ 24)) (cn (mk (rr 14550 fZ 25)) (cn (mk (rr 14550 fZ 26)) (cn (mk (rr 14550 fZ 27)) lI))))))),Q0]) Qri)) fl) fl
def abG:T Lf:=sp (.lt (.lit 20000) Qb) Qri (sp (.eq (a0 1650 uK) Q0) (sp Pn (sp (.eq (a0 1750 uK) Q0) (sp Pm (sp (.eq (a0 14050 Qrm) Q0) (sp (.eq (rr 14050 Qrm 0) Qa) (ju 2005 [Qf,wL,Qo,Qm,bD,bU,dN,eF,fB,fF,jQ,jP,rr 14050 Qrm 12,mG,oK,Fv,O5,O6]) fl) fl) (sp (.eq dN sF) (sp X7 (sp (.eq (a0 14550 lM) Q0) (sp (.eq (rr 14550 lM 0) Qa) (sp (.eq (rr 14550 lM 21) Qa) Qri (sp (.and (.eq (rr 14550 lM 16) Qf) (.and (.eq (rr 14550 lM 17) dN) (.and (.eq (rr 14550 lM 18) eF) (.and (.eq (rr 14550 lM 19) fB) (.eq (rr 14550 lM 20) fF))))) (ou [rr 14550 lM 22,.op .set jP (cn (mk Qf) (cn (mk (rr 14550 lM 23)) (cn mG (cn (mk (rr 14550 lM 24)) (cn (mk (rr 14550 lM 25)) (cn (mk (rr 14550 lM 26)) (cn (mk (rr 14550 lM 27)) lI))))))),Q0]) Qri)) fl) fl) Qrq) Qrq)) fl) Qri) fl)
def ajN:T Lf:=sp (.eq (a0 200 [Qf,Qo]) Q0) (sp (.eq (rr 200 [Qf,Qo] 0) Qa) bW (sp (.eq Qc Pz) (ju 2051 [Qc,Qa,Qf,Qb,Qo,Qm]) bW)) fl
def abE:T Lf:=sp Qp9 (sp Qe2 fl (sp (.lt Qb Pz) (sp (.lt Qb Qe3) (sp (.eq (nm (ce 0 Qqx)) (nm (ce 0 X9))) (sp (.eq (nm (ce 2 Qqx)) (nm (ce 2 X9))) (sp (.eq (nm (ce 3 Qqx)) (nm (ce 3 X9))) (sp (.eq (nm (ce 4 Qqx)) (nm (ce 4 X9))) (sp (.eq (nm (ce 5 Qqx)) (nm (ce 5 X9))) (sp (.eq (ln Qqy) (ln (ce 1 X9))) (ju 2052 [Qf,Qb,ln Qqy,Qa,Qo,Qm,bD,bU,nm (ce 0 Qqx),Qqy,nm (ce 2 Qqx),nm (ce 3 Qqx),nm (ce 4 Qqx),nm (ce 5 Qqx),nm (ce 0 X9),ce 1 X9,nm (ce 2 X9),nm (ce 3 X9),nm (ce 4 X9),nm (ce 5 X9)]) bW) bW) bW) bW) bW) bW) fl) fl)) oV
abbrev Qrr:SE:=.aK 18
abbrev Qrs:SE:=.aK 19
def abD:T Lf:=sp Qp (sp Qq fl (sp (.lt Qm (ln fF)) (sp (.lt Qm (ln Fv)) (sp (.eq (nm (el fF Qm)) (nm (el Fv Qm))) (ju 2052 [Qf,Qb,Qo,Q1,bD,bU,dN,eF,fB,fF,jQ,jP,nU,mG,oK,Fv,O5,O6,Qrr,Qrs]) bW) fl) fl)) (ju 2051 [Qf,wL,bD,bU,dN,eF])
abbrev Qrt:SB:=.eq (a0 1450 Po) Q0
abbrev Qru:SB:=.eq (rr 1450 Po 2) Qa
abbrev Qrv:SE:=rr 1450 Po 0
abbrev Qrw:SE:=rr 1450 Po 1
abbrev Qrx:List SE:=[Qm,bD,bU,dN,Qgl,nm VH,Qgk,nm Qgn,nm Qgo]
abbrev Qrz:SE:=ce 2 Qf2
def Ls:T Lf:=sp Qrt (sp (.eq (a0 100 Po) Q0) (sp (.eq (rr 100 Po 0) Qa) (sp Qru (sp Qlf oV (sp (.lt Qc (.lit 2932031007402)) (ju 3501 [Qo,.op .rep Qc Qge,.op .rep Qc lI,Qa,Qf,Qb,Qm,bD,bU,dN,eF,Qrv,Qrw]) fl)) oV) oV) fl) fl
abbrev Quq:SE:=.rem (wr (.add (.rem Qmm Qe3) Qe3)) Qe3
abbrev Qur:List SE:=[bD,bU,jP,nU,Quq]
abbrev Qus:List SE:=[bD,bU,rr 1850 Qur 0,rr 1850 Qur 1]
def PO:T Lf:=sp Qfh (sp (.lt Qm Qkp) (sp Qq fl (sp (.eq Qe3 Qa) fl (sp (.eq (a0 1850 Qur) Q0) (sp (.eq (a0 1500 Qus) Q0) (sp (.eq (rr 1500 Qus 0) Qa) bW (ju 3502 [Qf,Qb,Qo,Qm,Quq,rr 1850 Qur 7,ln nU,Qa,bD,bU,dN,eF,fB,fF,jQ,jP,nU,rr 1850 Qur 0,rr 1850 Qur 1,rr 1850 Qur 2,rr 1850 Qur 3,rr 1850 Qur 4,rr 1850 Qur 5,rr 1850 Qur 6])) fl) fl))) oV) oV
abbrev Qut:SE:=wr (.add eF Q0)
abbrev Quu:SE:=.aK 20
abbrev Quv:SE:=.aK 21
abbrev Quw:SE:=.aK 22
abbrev Qux:SE:=.aK 23
abbrev Quy:T Lf:=ju 3502 [Qf,Qb,Qo,Qm,bD,bU,dN,Qut,fB,fF,jQ,jP,nU,mG,oK,Fv,O5,O6,Qrr,Qrs,Quu,Quv,Quw,Qux]
abbrev Quz:List SE:=[fB,fF,Fv,O5,Qrs,Quu,Quv,Quw,Qux]
abbrev Qu0:SE:=.op .set Qb (cn Qpr (.op .set (.op .set Qpd (cn lI Fv)) (cn Qh O5)))
abbrev Qu1:List SE:=[fB,fF,ce 0 (el Qu0 bD),ce 1 (el Qu0 bD),Qrs,Quu,Quv,Quw,Qux]
abbrev Qu2:SB:=.eq (rr 2000 Quz 2) Qa
abbrev Qu3:List SE:=[rr 2000 Quz 0,rr 2000 Quz 1,O6,Qrr]
abbrev Qu4:SB:=.eq (rr 2050 Qu3 0) Qa
abbrev Qu5:List SE:=[rr 2000 Qu1 0,rr 2000 Qu1 1,O6,Qrr]
abbrev Qu6:List SE:=[fB,fF,Fv,O5,bD,jP,nU,mG,oK]
abbrev Qu7:SB:=.eq (rr 2000 Qu6 2) Qa
abbrev Qu8:SE:=.op .set Qo (cn Qpr Qh)
abbrev Qu9:T Lf:=ju 3503 [Qf,Qu0,Qu8,Qm,bD,bU,Qcl,Qa,fB,fF,bD,jP,nU,mG,oK,Fv,O5,O6,Qrr]
abbrev Qva:SB:=.and (.eq bD Qrs) (.and (.eq jP Quu) (.and (.eq nU Quv) (.and (.eq mG Quw) (.eq oK Qux))))
abbrev Qvb:T Lf:=sp (.eq (a0 2000 Quz) Q0) (sp (.eq (a0 2000 Qu1) Q0) (sp Qu2 bW (sp (.eq (a0 2050 Qu3) Q0) (sp Qu4 bW (sp (.eq (rr 2000 Qu1 2) Qa) bW (sp (.eq (a0 2050 Qu5) Q0) (sp (.eq (rr 2050 Qu5 0) Qa) bW (sp (.eq (a0 2000 Qu6) Q0) (sp Qu7 Qu9 (sp Qva Qu9 (sp (.eq Quu sF) Qu9 bW))) fl)) fl))) fl)) fl) fl
abbrev Qvc:List SE:=[fB,fF,ce 0 Qpd,ce 1 Qpd,Qrs,Quu,Quv,Quw,Qux]
abbrev Qvd:List SE:=[rr 2000 Qvc 0,rr 2000 Qvc 1,O6,Qrr]
abbrev Qve:T Lf:=ju 3503 [Qf,Qb,Qo,Qm,bD,bU,Qcl,Qa,fB,fF,bD,jP,nU,mG,oK,Fv,O5,O6,Qrr]
abbrev Qvf:T Lf:=sp (.eq (a0 2000 Quz) Q0) (sp Qo7 (sp (.eq (a0 2000 Qvc) Q0) (sp Qu2 bW (sp (.eq (a0 2050 Qu3) Q0) (sp Qu4 bW (sp (.eq (rr 2000 Qvc 2) Qa) bW (sp (.eq (a0 2050 Qvd) Q0) (sp (.eq (rr 2050 Qvd 0) Qa) bW (sp (.eq (a0 2000 Qu6) Q0) (sp Qu7 Qve (sp Qva Qve (sp (.eq Quu sF) Qve bW))) fl)) fl))) fl)) fl) fl) fl
def Ef:T Lf:=sp (.lt eF dN) (sp (.eq eF bD) Quy (sp Qlx fl (sp (.lt eF (ln Qrr)) (sp (.lt eF (ln O5)) (sp (.eq (nm (ce 0 (el Qrr eF))) (nm (ce 0 (el O5 eF)))) (sp (.eq (ln (ce 1 (el Qrr eF))) (ln (ce 1 (el O5 eF)))) Quy bW) bW) fl) fl))) (sp Qlw fl (sp (.lt bD Qcl) (sp (.eq (nm (el Qo bD)) Qa) (sp Qo7 (sp Qlz Qvb (sp Ql0 Qvb (ju 3503 [Qf,Qu0,Qu8,Qm,bD,bU,Qcl,Qa,fB,fF,jQ,jP,nU,mG,oK,Fv,O5,O6,Qrr]))) fl) (sp Qlz Qvf (sp Ql0 Qvf (ju 3503 [Qf,Qb,Qo,Qm,bD,bU,Qcl,Qa,fB,fF,jQ,jP,nU,mG,oK,Fv,O5,O6,Qrr])))) fl))
abbrev Qvg:T Lf:=ju 3503 [Qf,Qb,.op .set Qo (cn (mk eF) lI),Qm,bD,bU,dN,Qut,fB,fF,jQ,jP,nU,mG,oK,Fv,O5,O6,Qrr]
def Lr:T Lf:=sp (.lt eF dN) (sp Qlx fl (sp (.lt eF Qcl) (sp (.eq (nm (el Qo eF)) Qa) Qvg (sp (.eq eF bD) (sp Qly (ju 3503 [Qf,Qb,.op .set Qo (cn (mk eF) Qh),Qm,bD,bU,dN,Qut,fB,fF,jQ,jP,nU,mG,oK,Fv,O5,O6,Qrr]) Qvg) Qvg)) fl)) (ju 3501 [Qf,Qb,Qo,Q1,fB,fF,jQ,jP,nU,mG,oK,O6,Qrr])
def ajJ:T Lf:=sp (.eq (a0 5400 Qo8) Q0) (sp (.lt (rr 5400 Qo8 3) Qa) (ou [rr 5400 Qo8 0,rr 5400 Qo8 1,rr 5400 Qo8 2,Qa]) (ou [rr 5400 Qo8 0,rr 5400 Qo8 1,rr 5400 Qo8 2,Q0])) fl
abbrev Qvh:SE:=wr (.sub bU Q0)
def ajI:T Lf:=sp (.lt Qvh Qa) (ou [Qvh,dN,Qa]) (sp (.lt Yj bD) (ou [Qvh,dN,Qa]) (ju 5051 [bD,Qm,Pz,Qa,Qvh,dN,Qf,Qb,Qo]))
abbrev Qvi:List SE:=[Qfj,ce 1 Qs,Qfn,ce 3 Qs,Qkt,bD,bU]
abbrev Qvj:SE:=.op .norm eF Qa
abbrev Qvk:T Lf:=ou [bD,bU,Qa]
abbrev Qvl:T Lf:=ou [bD,bU,Q0]
def abC:T Lf:=sp Qp (sp Qq fl (sp Qr (sp (.eq (a0 5050 Qvi) Q0) (sp (.eq (rr 5050 Qvi 2) Qa) (ou [rr 5050 Qvi 0,rr 5050 Qvi 1,Qa]) (ju 5051 [Qf,Qb,Qo,Q1,rr 5050 Qvi 0,rr 5050 Qvi 1,dN,eF,fB])) fl) fl)) (sp (.eq dN Q0) (sp Qlf (sp (.eq Qvj lI) (sp Qkx Qvk Qvl) Qvk) Qvk) (sp (.eq dN nV) (sp Qlf (sp Qkx Qvk (sp (.lt fB bU) (sp (.eq (a0 12900 [eF,Qa]) Q0) (sp (.eq (rr 12900 [eF,Qa] 0) Qa) Qvk (sp (.eq (rr 12900 [eF,Qa] 0) Q0) Qvl fl)) fl) Qvk)) Qvk) (sp (.eq dN wR) (sp X7 (sp (.eq Qc Q0) (sp (.eq Qvj Qot) Qvl Qvk) (sp (.eq Qc nV) (sp (.eq Qvj Qou) Qvl (sp (.eq Qvj Qot) Qvl (sp (.eq Qvj Qov) Qvl (sp (.eq Qvj Qow) Qvl (sp (.eq Qvj Qox) Qvl Qvk))))) Qvk)) Qvk) Qvk)))
def ajH:T Lf:=ju 5101 Po
def axP:T Lf:=ou [Qb]
def ajG:T Lf:=ju 5151 Po
def axO:T Lf:=ou [Qf,Qb,Q0]
def ajF:T Lf:=ju 5201 Po
def axN:T Lf:=ou [Q0,Qf,Qb,Q0]
def ajE:T Lf:=ju 5251 [Qb,Qf,vP,Qa,Qo]
abbrev Qvm:SB:=.lt (.lit 1000) (wr (.add bD Q0))
abbrev Qvn:SB:=.eq (a0 1150 [Qfj,ce 1 Qs,Qfn,ce 3 Qs]) Q0
abbrev Qvo:SB:=.eq (rr 1150 [Qfj,ce 1 Qs,Qfn,ce 3 Qs] 0) Qa
abbrev Qvp:List SE:=[ce 3 Qs,Qkt,wr (.add bD Q0)]
abbrev Qvq:List SE:=[Qf,Qb,Qo,Q1,rr 5450 Qvp 0]
def abB:T Lf:=sp Qp (sp Qq fl (sp Qr (sp Qvm fl (sp (.lt Yj Qf) fl (sp Qvn (sp Qvo fl (sp (.eq (a0 5450 Qvp) Q0) (ju 5251 Qvq) fl)) fl))) fl)) (ou [bD,Qb])
def ajD:T Lf:=ju 5301 [Qf,Qa,Qb,Qo,Qm]
abbrev Qvr:SB:=.eq (nm (ce 0 Qqb)) nV
abbrev Qvs:List SE:=[ce 3 Qqb,Qm,bD]
abbrev Qvt:T Lf:=sp (.eq (a0 5500 Qvs) Q0) (sp (.eq (rr 5500 Qvs 2) Qa) (ou [Qo,rr 5500 Qvs 0,rr 5500 Qvs 1,Qa]) (ju 5301 [Qf,wL,Qo,rr 5500 Qvs 0,rr 5500 Qvs 1])) fl
def abA:T Lf:=sp Qp9 (sp Qe2 fl (sp Qqa (sp Qvr (sp (.eq (.op .JU bD Qqz) Qa) (ou [Qo,Qm,bD,Qa]) (sp (.eq (nm (.op .JV bD Qqz)) Qa) (ou [Qo,Qm,bD,Qa]) Qvt)) Qvt) fl)) (ou [Qo,Qm,bD,Q0])
def ajC:T Lf:=ju 5351 [Qf,Qa,Qb,Q0,Qo,Qm]
abbrev Qvu:T Lf:=ou [Qo,Qm,bD,bU,Qa]
abbrev Qvv:List SE:=[ce 3 Qqb,Qm,bD,bU]
abbrev Qvw:T Lf:=sp (.eq (a0 5600 Qvv) Q0) (sp (.eq (rr 5600 Qvv 3) Qa) (ou [Qo,rr 5600 Qvv 0,rr 5600 Qvv 1,rr 5600 Qvv 2,Qa]) (ju 5351 [Qf,wL,Qo,rr 5600 Qvv 0,rr 5600 Qvv 1,rr 5600 Qvv 2])) fl
def aaZ:T Lf:=sp Qp9 (sp Qe2 fl (sp Qqa (sp Qvr (sp (.eq (.op .JU bU Qqz) Qa) Qvu (sp (.eq (nm (.op .JV bU Qqz)) Qa) Qvu Qvw)) Qvw) fl)) (ou [Qo,Qm,bD,bU,Q0])
def ajB:T Lf:=ju 5401 [Qf,vP,Qa,Qb,Qo,Qm]
def aaY:T Lf:=sp yZ (sp wQ fl (sp Qfz (sp (.eq (a0 800 [Qgl,VH,Qgk,Qgn,Qdi]) Q0) (sp (.eq (rr 800 [Qgl,VH,Qgk,Qgn,Qdi] 0) Qa) (ou [Qm,bD,bU,Qo]) (ju 5401 [Qf,Qb,mZ,Qm,bD,bU])) fl) fl)) (ou [Qm,bD,bU,Qji])
def ajA:T Lf:=ju 5451 [Qb,Qf,vP,Qa,Qo]
def aiZ:T Lf:=sp Qp (sp Qq fl (sp Qr (sp Qvm fl (sp (.lt Yj Qf) fl (sp Qvn (sp Qvo fl (sp (.eq (a0 5450 Qvp) Q0) (ju 5451 Qvq) fl)) fl))) fl)) (ou [bD])
def aiX:T Lf:=ju 5501 [Qf,vP,Qa,Qb,Qo]
abbrev Qvx:List SE:=[Qgn,Qm,bD]
abbrev Qvy:T Lf:=sp (.eq (a0 5500 Qvx) Q0) (sp (.eq (rr 5500 Qvx 2) Qa) (ou [rr 5500 Qvx 0,rr 5500 Qvx 1,Qa]) (ju 5501 [Qf,Qb,mZ,rr 5500 Qvx 0,rr 5500 Qvx 1])) fl
def aiW:T Lf:=sp yZ (sp wQ fl (sp Qfz (sp (.eq Qgl nV) (sp (.eq (.op .JU bD VH) Qa) Qo5 (sp (.eq (nm (.op .JV bD VH)) Qa) Qo5 Qvy)) Qvy) fl)) (ou [Qm,bD,Q0])
def axM:T Lf:=ju 5551 [Qf,vP,Qa,Q0,Qb,Qo]
abbrev Qvz:SB:=.eq (.op .JU bU VH) Qa
abbrev Qv0:T Lf:=ou [Qm,bD,bU,Qa]
abbrev Qv1:SB:=.eq (nm (.op .JV bU VH)) Qa
abbrev Qv2:List SE:=[Qgn,Qm,bD,bU]
abbrev Qv3:SB:=.eq (rr 5600 Qv2 3) Qa
abbrev Qv4:T Lf:=ou [rr 5600 Qv2 0,rr 5600 Qv2 1,rr 5600 Qv2 2,Qa]
abbrev Qv5:List SE:=[Qf,Qb,mZ,rr 5600 Qv2 0,rr 5600 Qv2 1,rr 5600 Qv2 2]
abbrev Qv6:T Lf:=sp (.eq (a0 5600 Qv2) Q0) (sp Qv3 Qv4 (ju 5551 Qv5)) fl
def axL:T Lf:=sp yZ (sp wQ fl (sp Qfz (sp (.eq Qgl nV) (sp Qvz Qv0 (sp Qv1 Qv0 Qv6)) Qv6) fl)) (ou [Qm,bD,bU,Q0])
def aiV:T Lf:=ju 5601 [Qf,vP,Qa,Qb,Qo,Qm]
abbrev Qv7:T Lf:=sp (.eq (a0 5600 Qv2) Q0) (sp Qv3 Qv4 (ju 5601 Qv5)) fl
def aiU:T Lf:=sp yZ (sp wQ fl (sp Qfz (sp (.eq Qgl nV) (sp Qvz Qv0 (sp Qv1 Qv0 Qv7)) Qv7) fl)) (ou [Qm,bD,bU,Q0])
abbrev Qv8:List SE:=[Qf,Qb,Qo,Qm,bD,bU,dN,eF,fB,fF,jQ,jP,nU]
abbrev Qv9:SE:=rr 12050 Qv8 14
abbrev Qwa:T Lf:=ou [Qa,Qf,Qb,Qo,Qm,bD,bU,dN,eF,fB,fF,jQ,jP,nU]
def TY:T Lf:=sp (.eq (a0 12050 Qv8) Q0) (sp (.eq (rr 12050 Qv8 0) Qa) (sp (.eq Qv9 Qji) Qwa (ju 12001 [Qf,Qb,Qo,Qm,bD,bU,dN,eF,fB,fF,jQ,jP,nU,Qf,Qv9,wr (.add Qv9 Q0)])) fl) fl
abbrev Qwb:SB:=.eq (nm (el mG Fv)) Qb
abbrev Qwc:List SE:=[Qf,Qb,Qo,Qm,bD,bU,dN,eF,fB,fF,jQ,jP,nU,mG,oK,wr (.add Fv Q0)]
abbrev Qwd:SB:=.lt oK Qa
abbrev Qwe:SE:=wr (.add oK Q0)
abbrev Qwf:List SE:=[Qf,Qb,Qo,Qm,bD,bU,dN,eF,fB,fF,jQ,jP,nU,.op .set mG (cn (mk oK) (mk (nm (el mG Fv)))),Qwe,wr (.add Fv Q0)]
abbrev Qwg:T Lf:=sp Qwd fl (sp (.lt Qld oK) fl (sp (.lt (.sub Qld oK) Qa) fl (sp (.eq (.add oK (.sub Qld oK)) Qld) (ou [Q0,Qf,Qb,Qo,Qm,bD,bU,dN,eF,fB,fF,jQ,jP,nU,oK,.op .fill mG (cn (mk oK) lI),Qld]) fl)))
def LJ:T Lf:=sp (.lt Fv Qld) (sp (.lt Fv Qa) fl (sp Qwb (ju 12001 Qwc) (sp Qwd fl (sp (.lt oK Qld) (ju 12001 Qwf) fl)))) Qwg
abbrev Qwh:List SE:=[Qf,Qb,Qo,Qm,bD,bU,dN,eF,fB,fF,jQ,jP,nU,vP,Qa]
def YO:T Lf:=ju 12051 Qwh
abbrev Qwi:SB:=.eq (nm (el Qf oK)) Qb
abbrev Qwj:T Lf:=ou [Qa,Qf,Qb,Qo,Qm,bD,bU,dN,eF,fB,fF,jQ,jP,nU,oK]
abbrev Qwk:List SE:=[Qf,Qb,Qo,Qm,bD,bU,dN,eF,fB,fF,jQ,jP,nU,mG,Qwe]
abbrev Qwl:T Lf:=ou [Qa,Qf,Qb,Qo,Qm,bD,bU,dN,eF,fB,fF,jQ,jP,nU,Qji]
def LH:T Lf:=sp (.lt oK mG) (sp Qwd fl (sp (.lt oK vP) (sp Qwi Qwj (ju 12051 Qwk)) fl)) Qwl
abbrev Qwm:SE:=rr 12150 Qv8 14
def TW:T Lf:=sp (.eq (a0 12150 Qv8) Q0) (sp (.eq (rr 12150 Qv8 0) Qa) (sp (.eq Qwm Qji) Qwa (ju 12101 [Qf,Qb,Qo,Qm,bD,bU,dN,eF,fB,fF,jQ,jP,nU,Qf,Qwm,wr (.add Qwm Q0)])) fl) fl
def LG:T Lf:=sp (.lt Fv Qld) (sp (.lt Fv Qa) fl (sp Qwb (ju 12101 Qwc) (sp Qwd fl (sp (.lt oK Qld) (ju 12101 Qwf) fl)))) Qwg
def YN:T Lf:=ju 12151 Qwh
def LD:T Lf:=sp (.lt oK mG) (sp Qwd fl (sp (.lt oK vP) (sp Qwi Qwj (ju 12151 Qwk)) fl)) Qwl
def YL:T Lf:=sp (.eq (a0 12250 Qv8) Q0) (sp (.eq (rr 12250 Qv8 0) Qa) Qwa fl) fl
def YK:T Lf:=ju 12251 Qv8
def YJ:T Lf:=ou [Qa,Qf,Qb,Qo,Qm,bD,bU,dN,eF,fB,fF,jQ,jP,nU]
def YI:T Lf:=sp (.eq (a0 12350 Qv8) Q0) (sp (.eq (rr 12350 Qv8 0) Qa) Qwa fl) fl
def YH:T Lf:=ju 12351 Qv8
def YF:T Lf:=ou [Qa,Qf,Qb,Qo,Qm,bD,bU,dN,eF,fB,fF,jQ,jP,nU]
abbrev Qwn:SB:=.eq (a0 1400 [Qf,Qm7,Qb,lI,Qo]) Q0
abbrev Qwo:SB:=.eq (rr 1400 [Qf,Qm7,Qb,lI,Qo] 0) Qa
abbrev Qwp:T Lf:=ou [Qa,Qf,Qb,Qo,Qm,bD,bU,dN]
abbrev Qwq:SB:=.lt (.lit 23) bD
abbrev Qwr:SB:=.eq bU Qa
abbrev Qws:SB:=.eq (a0 1250 [bD]) Q0
abbrev Qwt:SB:=.eq (rr 1250 [bD] 0) Qa
abbrev Qwu:SB:=.eq (a0 1300 [bD]) Q0
abbrev Qwv:SB:=.eq (rr 1300 [bD] 0) Qa
abbrev Qww:SB:=.eq (a0 5100 [nV,Q0]) Q0
abbrev Qwx:T Lf:=sp Qww (ou [Q0,Qf,Qb,Qo,Qm,bD,bU,dN]) fl
abbrev Qwy:SB:=.eq (a0 1000 [lI]) Q0
abbrev Qwz:SB:=.eq (rr 1000 [lI] 0) Qa
def YE:T Lf:=sp Qwn (sp Qwo Qwp (sp Qfb Qwp (sp Qwq Qwp (sp Qwr (sp Qws (sp Qwt (sp Qwu (sp Qwv Qwx (sp Qwy (sp Qwz Qwp Qwx) fl)) fl) Qwp) fl) Qwp)))) fl
abbrev Qw0:SE:=.dat (.p (.i 98) (.i 0))
abbrev Qw1:SB:=.eq (a0 1400 [Q0,Qw0,Qf,lI,Qb]) Q0
abbrev Qw2:SB:=.eq (rr 1400 [Q0,Qw0,Qf,lI,Qb] 0) Qa
abbrev Qw3:T Lf:=ou [Qa,Qf,Qb,Qo,Qm,bD,bU,dN,eF,fB]
abbrev Qw4:SB:=.eq (a0 1400 [Qo,Qm7,Qm,Qw0,bD]) Q0
abbrev Qw5:SB:=.eq (rr 1400 [Qo,Qm7,Qm,Qw0,bD] 0) Qa
abbrev Qw6:SB:=.lt dN Q0
abbrev Qw7:SB:=.lt (.lit 23) dN
abbrev Qw8:SB:=.eq (a0 1250 [dN]) Q0
abbrev Qw9:SB:=.eq (rr 1250 [dN] 0) Qa
abbrev Qxa:SB:=.eq (a0 1300 [dN]) Q0
abbrev Qxb:SB:=.eq (rr 1300 [dN] 0) Qa
abbrev Qxc:T Lf:=sp Qww (ou [Q0,Qf,Qb,Qo,Qm,bD,bU,dN,eF,fB]) fl
def YD:T Lf:=sp Qw1 (sp Qw2 Qw3 (sp Qw4 (sp Qw5 Qw3 (sp Qw6 Qw3 (sp Qw7 Qw3 (sp Qk1 (sp Qw8 (sp Qw9 (sp Qxa (sp Qxb Qxc (sp Qwy (sp Qwz Qw3 Qxc) fl)) fl) Qw3) fl) Qw3)))) fl)) fl
def YC:T Lf:=sp Qwn (sp Qwo Qwp (sp Qfb Qwp (sp Qwq Qwp (sp Qwr (sp Qws (sp Qwt (sp Qwu (sp Qwv Qwp Qwx) fl) Qwp) fl) Qwp)))) fl
def YB:T Lf:=sp Qw1 (sp Qw2 Qw3 (sp Qw4 (sp Qw5 Qw3 (sp Qw6 Qw3 (sp Qw7 Qw3 (sp Qk1 (sp Qw8 (sp Qw9 (sp Qxa (sp Qxb Qw3 Qxc) fl) Qw3) fl) Qw3)))) fl)) fl
abbrev Qxd:T Lf:=ou [Qa,Qf,Qb,Qo,Qm,bD,bU,dN,eF]
abbrev Qxe:SB:=.eq Qfc (rr 1250 [bD] 0)
abbrev Qxf:T Lf:=sp (.eq (a0 5250 [dN,nV,Q0]) Q0) (ou [Q0,Qf,Qb,Qo,Qm,bD,bU,dN,eF,Qfc,rr 5250 [dN,nV,Q0] 1]) fl
def TV:T Lf:=sp Qwn (sp Qwo Qxd (sp Qfb Qxd (sp Qwq Qxd (sp Qwr (sp Qws (sp Qxe (sp Qwu (sp Qwv Qxf (sp Qwy (sp Qwz Qxd Qxf) fl)) fl) Qxd) fl) Qxd)))) fl
abbrev Qxg:T Lf:=ou [Qa,Qf,Qb,Qo,Qm,bD,bU,dN,eF,fB,fF]
abbrev Qxh:SB:=.eq (ln fB) (rr 1250 [dN] 0)
abbrev Qxi:T Lf:=sp (.eq (a0 5250 [fB,nV,Q0]) Q0) (ou [Q0,Qf,Qb,Qo,Qm,bD,bU,dN,eF,fB,fF,ln fB,rr 5250 [fB,nV,Q0] 1]) fl
def TU:T Lf:=sp Qw1 (sp Qw2 Qxg (sp Qw4 (sp Qw5 Qxg (sp Qw6 Qxg (sp Qw7 Qxg (sp Qk1 (sp Qw8 (sp Qxh (sp Qxa (sp Qxb Qxi (sp Qwy (sp Qwz Qxg Qxi) fl)) fl) Qxg) fl) Qxg)))) fl)) fl
def TS:T Lf:=sp Qwn (sp Qwo Qxd (sp Qfb Qxd (sp Qwq Qxd (sp Qwr (sp Qws (sp Qxe (sp Qwu (sp Qwv Qxd Qxf) fl) Qxd) fl) Qxd)))) fl
def TQ:T Lf:=sp Qw1 (sp Qw2 Qxg (sp Qw4 (sp Qw5 Qxg (sp Qw6 Qxg (sp Qw7 Qxg (sp Qk1 (sp Qw8 (sp Qxh (sp Qxa (sp Qxb Qxg Qxi) fl) Qxg) fl) Qxg)))) fl)) fl
def YA:T Lf:=ju 12801 [Qf,Qb,Qb]
abbrev Qxj:SE:=nm (el (.dat b0) (nm Ym))
abbrev Qxk:SE:=.op .idx (.op .sub Qf (cn Fp (cn (mk vP) lI))) Qit
def TP:T Lf:=sp Qfz (sp wQ fl (sp (.lt (nm Ym) Qa) fl (sp (.lt (nm Ym) Qok) (sp (.eq Qxj Q0) (ju 12801 [Qf,Qb,mZ]) (sp (.eq Qxj nV) (sp (.lt vP vP) fl (sp (.lt Qxk Qa) (ou [Qa,Qf,Qb,vP]) (ju 12801 [Qf,Qb,wr (.add Qo Qxk)]))) (ou [Qa,Qf,Qb,Qo]))) fl))) (ou [Qa,Qf,Qb,Qo])
abbrev Qxl:SE:=nm (el Qf Qb)
abbrev Qxm:SE:=wr (.add Qb nV)
abbrev Qxn:SE:=.op .norm (.op .sub Qf (cn Tt (cn (mk vP) lI))) Qa
abbrev Qxo:SE:=.dat (.p (.i 45) (.p (.i 62) (.i 0)))
abbrev Qxp:T Lf:=ou [Qa,Qf,Qb,wr (.add wL Q0)]
abbrev Qxq:SE:=.op .norm (.op .sub Qf (cn Tt (cn (mk Qxm) lI))) Qa
def Yz:T Lf:=sp Qe2 fl (sp (.lt Qb vP) (sp (.lt Qxl Qa) fl (sp (.lt Qxl Qok) (sp (.eq (nm (el (.dat b0) Qxl)) Qch) (sp (.lt vP Qxm) (sp (.lt vP vP) fl (sp (.eq Qxn Qxo) Qxp (sp (.eq Qxn Qow) Qxp (ou [Qa,Qf,Qb,wL])))) (sp (.lt Qxm Qb) fl (sp (.eq Qxq Qxo) Qxp (sp (.eq Qxq Qow) Qxp (ou [Qa,Qf,Qb,wL]))))) (ju 12851 [Qf,Qb,nm (el (.dat b0) Qxl),wL])) fl)) fl)
abbrev Qxr:T Lf:=ou [Qa,Qf,Qb,Qm]
def TN:T Lf:=sp Qfh (sp Qq fl (sp (.lt Qmm Qa) fl (sp (.lt Qmm Qok) (sp (.eq (nm (el (.dat b0) Qmm)) wR) (ju 12851 Qfy) (sp (.eq (nm (el (.dat b0) Qmm)) sF) (sp (.eq Qo sF) (ju 12851 Qfy) Qxr) Qxr)) fl))) Qxr
abbrev Qxs:SE:=el Qrz bU
abbrev Qxt:SE:=nm (ce 0 Qxs)
abbrev Qxu:SB:=.lt Qa (ln (ce 6 Qxs))
abbrev Qxv:SE:=el (ce 6 Qxs) Qa
abbrev Qxw:List SE:=[nm (ce 0 Qxv),ce 1 Qxv,nm (ce 2 Qxv),ce 3 Qxv,dN]
abbrev Qxx:SB:=.eq (a0 1950 Qxw) Q0
abbrev Qxy:SE:=nm (ce 3 Qxs)
abbrev Qxz:SB:=.eq (rr 1950 Qxw 0) Qa
abbrev Qx0:T Lf:=ou [Qa,Qf,Qb,Qo,Qm,bD,bU,dN,eF,fB,fF,jQ,nm (ce 4 Qxs),dN]
def zC:T Lf:=sp wQ fl (sp Qdk (sp Qf0 (sp Qfp fl (sp (.lt bU (ln Qrz)) (sp (.eq Qxt wR) (sp Qxu (sp Qxx (sp (.lt Qxy Qa) fl (sp (.lt Qxy Qfc) (ou [Qa,Qf,Qb,Qo,Qm,bD,bU,dN,eF,fB,fF,jQ,Qfs,.op .set dN (cn (mk Qxy) (mk (rr 1950 Qxw 0)))]) fl)) fl) fl) (sp (.eq Qxt sF) (sp Qxu (sp Qxx (sp Qxz Qx0 (ou [Qa,Qf,Qb,Qo,Qm,bD,bU,dN,eF,fB,fF,jQ,Qfs,dN])) fl) fl) (sp (.eq Qxt Qch) Qx0 (sp (.eq Qxt Yn) (sp (.lt Qxy Qa) fl (sp (.lt Qxy Qfc) (ou [Qa,Qf,Qb,Qo,Qm,bD,bU,dN,eF,fB,fF,jQ,Qfs,.op .set dN (cn (mk Qxy) (mk (nm (ce 5 Qxs))))]) fl)) (sp (.eq Qxt Qil) (sp (.lt Qxy Qa) fl (sp (.lt Qxy Qfc) (sp (.lt Qa (nm (el dN Qxy))) (ou [Qa,Qf,Qb,Qo,Qm,bD,bU,dN,eF,fB,fF,jQ,Qfs,.op .set dN (cn (mk Qxy) (mk (wr (.sub (nm (el dN Qxy)) Q0))))]) Qx0) fl)) fl))))) fl)) fl) fl)
abbrev Qx1:List SE:=[Qf,Qb,eF,Qo,Qm,bD,bU,dN]
abbrev HY:SE:=rr 400 Qx1 6
abbrev Qx3:SE:=el Qrz fF
abbrev Qx4:SB:=.eq (nm (ce 0 Qx3)) Q0
abbrev Qx5:SB:=.eq (nm (ce 1 Qx3)) Qj3
abbrev OY:SE:=rr 400 Qx1 2
abbrev Hz:SE:=rr 400 Qx1 4
abbrev Qx8:SE:=nm (ce 3 Qx3)
abbrev Qx9:SB:=.lt Qx8 Qa
abbrev Qya:SB:=.eq HY wR
abbrev Tq:SE:=rr 400 Qx1 1
abbrev EC:SE:=rr 400 Qx1 3
abbrev Tn:SE:=rr 400 Qx1 5
abbrev Tm:SE:=rr 400 Qx1 0
abbrev Qyf:SE:=wr (.add fF Q0)
abbrev Qyg:T Lf:=ou [Qa,Qf,Qb,Qo,Qm,bD,bU,dN,eF,fB,fF,jQ,jP,nU,mG,oK,Tq,OY,EC,Hz,Tn,HY,Tm,Qyf,jQ,Qj0,EC,mG,Qa]
abbrev Qyh:T Lf:=ou [Qa,Qf,Qb,Qo,Qm,bD,bU,dN,eF,fB,fF,jQ,jP,nU,mG,oK,Tq,OY,EC,Hz,Tn,HY,Tm,Qyf,jQ,jP,nU,mG,Qa]
abbrev Qyi:SB:=.lt Qx8 (ln jQ)
abbrev Qyj:SE:=.op .set jQ (cn (mk Qx8) (mk Hz))
abbrev Qyk:T Lf:=ou [Qa,Qf,Qb,Qo,Qm,bD,bU,dN,eF,fB,fF,jQ,jP,nU,mG,oK,Tq,OY,EC,Hz,Tn,HY,Tm,Qyf,Qyj,Qj0,EC,mG,Qa]
abbrev Qyl:T Lf:=ou [Qa,Qf,Qb,Qo,Qm,bD,bU,dN,eF,fB,fF,jQ,jP,nU,mG,oK,Tq,OY,EC,Hz,Tn,HY,Tm,Qyf,Qyj,jP,nU,mG,Qa]
abbrev Qym:SE:=nm (ce 4 Qx3)
abbrev Qyn:T Lf:=ou [Qa,Qf,Qb,Qo,Qm,bD,bU,dN,eF,fB,fF,jQ,jP,nU,mG,oK,Tq,OY,EC,Hz,Tn,HY,Tm,Qym,jQ,Qj0,EC,mG,Qa]
abbrev Qyo:T Lf:=ou [Qa,Qf,Qb,Qo,Qm,bD,bU,dN,eF,fB,fF,jQ,jP,nU,mG,oK,Tq,OY,EC,Hz,Tn,HY,Tm,Qym,jQ,jP,nU,mG,Qa]
abbrev Qyp:T Lf:=ou [Qa,Qf,Qb,Qo,Qm,bD,bU,dN,eF,fB,fF,jQ,jP,nU,mG,oK,Tq,OY,EC,Hz,Tn,HY,Tm,Qym,Qyj,Qj0,EC,mG,Qa]
abbrev Qyq:T Lf:=ou [Qa,Qf,Qb,Qo,Qm,bD,bU,dN,eF,fB,fF,jQ,jP,nU,mG,oK,Tq,OY,EC,Hz,Tn,HY,Tm,Qym,Qyj,jP,nU,mG,Qa]
abbrev Qyr:SB:=.eq OY (.lit 15)
abbrev Qys:T Lf:=sp Qya (sp Qyr (ou [Qa,Qf,Qb,Qo,Qm,bD,bU,dN,eF,fB,fF,jQ,jP,nU,mG,oK,Tq,OY,EC,Hz,Tn,HY,Tm,Qyf,jQ,Qj2,EC,Hz,Qa]) Qyg) Qyh
def fE:T Lf:=sp (.eq (a0 400 Qx1) Q0) (sp wQ fl (sp (.lt Qo (ln fB)) (sp (.eq HY Qa) (sp (.eq Qm sF) (sp (.lt Qj1 Qwe) (ou [Qa,Qf,Qb,Qo,Qm,bD,bU,dN,eF,fB,fF,jQ,jP,nU,mG,oK,Qa,Qa,Qa,Qa,Qa,HY,eF,fF,jQ,jP,nU,mG,Qj1]) (ou [Qa,Qf,Qb,Qo,Qm,bD,bU,dN,eF,fB,fF,jQ,jP,nU,mG,oK,Qa,Qa,Qa,Qa,Qa,HY,eF,fF,jQ,jP,nU,mG,Qwe])) (ou [Qa,Qf,Qb,Qo,Qm,bD,bU,dN,eF,fB,fF,jQ,jP,nU,mG,oK,Qa,Qa,Qa,Qa,Qa,HY,eF,fF,jQ,jP,nU,mG,oK])) (sp (.eq jP Qa) (sp Qf0 (sp Qle fl (sp (.lt fF (ln Qrz)) (sp Qx4 (sp Qx5 (sp (.eq OY Qj3) (sp (.eq Hz Q0) (sp Qx9 (sp Qya Qyg Qyh) (sp Qyi (sp Qya Qyk Qyl) fl)) (sp Qx9 (sp Qya Qyn Qyo) (sp Qyi (sp Qya Qyp Qyq) fl))) (sp Qx9 (sp Qya (sp Qyr (ou [Qa,Qf,Qb,Qo,Qm,bD,bU,dN,eF,fB,fF,jQ,jP,nU,mG,oK,Tq,OY,EC,Hz,Tn,HY,Tm,Qym,jQ,Qj2,EC,Hz,Qa]) Qyn) Qyo) (sp Qyi (sp Qya (sp Qyr (ou [Qa,Qf,Qb,Qo,Qm,bD,bU,dN,eF,fB,fF,jQ,jP,nU,mG,oK,Tq,OY,EC,Hz,Tn,HY,Tm,Qym,Qyj,Qj2,EC,Hz,Qa]) Qyp) Qyq) fl))) (sp Qx9 Qys (sp Qyi (sp Qya (sp Qyr (ou [Qa,Qf,Qb,Qo,Qm,bD,bU,dN,eF,fB,fF,jQ,jP,nU,mG,oK,Tq,OY,EC,Hz,Tn,HY,Tm,Qyf,Qyj,Qj2,EC,Hz,Qa]) Qyk) Qyl) fl))) Qys) fl)) fl) (ou [Qa,Qf,Qb,Qo,Qm,bD,bU,dN,eF,fB,fF,jQ,jP,nU,mG,oK,Tq,OY,EC,Hz,Tn,HY,Tm,fF,jQ,Qa,Qa,Qa,Qa]))) fl)) fl
abbrev Qyt:T Lf:=ou [Qa,Qf,Qb,Qo,Qm,bD,bU,dN,eF,fB,fF,jQ,nm (ce 4 Qxs)]
def LC:T Lf:=sp wQ fl (sp Qdk (sp Qf0 (sp Qfp fl (sp (.lt bU (ln Qrz)) (sp (.eq Qxt wR) (sp Qxu (sp Qxx fl fl) fl) (sp (.eq Qxt sF) (sp Qxu (sp Qxx (sp Qxz Qyt (ou [Qa,Qf,Qb,Qo,Qm,bD,bU,dN,eF,fB,fF,jQ,Qfs])) fl) fl) (sp (.eq Qxt Qch) Qyt (sp (.eq Qxt Yn) fl (sp (.eq Qxt Qil) fl fl))))) fl)) fl) fl)
abbrev Qyu:T Lf:=ou [Qa,Qf,Qb,Qo,Qm,bD,bU,dN,eF,fB,fF,jQ,jP,nU,mG,oK,Tq,OY,EC,Hz,Tn,HY,Tm,Qyf,Qj0,EC,mG,Qa]
abbrev Qyv:T Lf:=ou [Qa,Qf,Qb,Qo,Qm,bD,bU,dN,eF,fB,fF,jQ,jP,nU,mG,oK,Tq,OY,EC,Hz,Tn,HY,Tm,Qyf,jP,nU,mG,Qa]
abbrev Qyw:T Lf:=ou [Qa,Qf,Qb,Qo,Qm,bD,bU,dN,eF,fB,fF,jQ,jP,nU,mG,oK,Tq,OY,EC,Hz,Tn,HY,Tm,Qym,Qj0,EC,mG,Qa]
abbrev Qyx:T Lf:=ou [Qa,Qf,Qb,Qo,Qm,bD,bU,dN,eF,fB,fF,jQ,jP,nU,mG,oK,Tq,OY,EC,Hz,Tn,HY,Tm,Qym,jP,nU,mG,Qa]
abbrev Qyy:T Lf:=sp Qya (sp Qyr (ou [Qa,Qf,Qb,Qo,Qm,bD,bU,dN,eF,fB,fF,jQ,jP,nU,mG,oK,Tq,OY,EC,Hz,Tn,HY,Tm,Qyf,Qj2,EC,Hz,Qa]) Qyu) Qyv
def jT:T Lf:=sp (.eq (a0 400 Qx1) Q0) (sp wQ fl (sp (.lt Qo (ln fB)) (sp (.eq HY Qa) (sp (.eq Qm sF) (sp (.lt Qj1 Qwe) (ou [Qa,Qf,Qb,Qo,Qm,bD,bU,dN,eF,fB,fF,jQ,jP,nU,mG,oK,Qa,Qa,Qa,Qa,Qa,HY,eF,fF,jP,nU,mG,Qj1]) (ou [Qa,Qf,Qb,Qo,Qm,bD,bU,dN,eF,fB,fF,jQ,jP,nU,mG,oK,Qa,Qa,Qa,Qa,Qa,HY,eF,fF,jP,nU,mG,Qwe])) (ou [Qa,Qf,Qb,Qo,Qm,bD,bU,dN,eF,fB,fF,jQ,jP,nU,mG,oK,Qa,Qa,Qa,Qa,Qa,HY,eF,fF,jP,nU,mG,oK])) (sp (.eq jP Qa) (sp Qf0 (sp Qle fl (sp (.lt fF (ln Qrz)) (sp Qx4 (sp Qx5 (sp (.eq OY Qj3) (sp (.eq Hz Q0) (sp Qx9 (sp Qya Qyu Qyv) fl) (sp Qx9 (sp Qya Qyw Qyx) fl)) (sp Qx9 (sp Qya (sp Qyr (ou [Qa,Qf,Qb,Qo,Qm,bD,bU,dN,eF,fB,fF,jQ,jP,nU,mG,oK,Tq,OY,EC,Hz,Tn,HY,Tm,Qym,Qj2,EC,Hz,Qa]) Qyw) Qyx) fl)) (sp Qx9 Qyy fl)) Qyy) fl)) fl) (ou [Qa,Qf,Qb,Qo,Qm,bD,bU,dN,eF,fB,fF,jQ,jP,nU,mG,oK,Tq,OY,EC,Hz,Tn,HY,Tm,fF,Qa,Qa,Qa,Qa]))) fl)) fl
def Yy:T Lf:=sp (.eq (a0 1000 Qj) Q0) (sp (.eq (rr 1000 Qj 0) Qa) Qbb Qd2) fl
end
theorem aoK:S.tree 9000=PN:=by kernel_rfl
theorem XG:S.tree 9001=vV:=by kernel_rfl
theorem ayV:S.tree 9002=aiR:=by kernel_rfl
theorem ayU:S.tree 9003=aiQ:=by kernel_rfl
theorem aoJ:S.tree 9004=aaX:=by kernel_rfl
theorem aoI:S.tree 9005=aaW:=by kernel_rfl
theorem aoH:S.tree 9006=aaV:=by kernel_rfl
theorem aoG:S.tree 9007=aaU:=by kernel_rfl
theorem aoF:S.tree 9050=Je:=by kernel_rfl
theorem aoE:S.tree 9051=aaT:=by kernel_rfl
theorem aoD:S.tree 9052=aaS:=by kernel_rfl
theorem aEs:S.tree 9053=axK:=by kernel_rfl
theorem ayT:S.tree 9054=aiP:=by kernel_rfl
theorem ayS:S.tree 9055=axJ:=by kernel_rfl
theorem aEr:S.tree 9056=axI:=by kernel_rfl
theorem aEq:S.tree 9057=axH:=by kernel_rfl
theorem aEp:S.tree 9058=axG:=by kernel_rfl
theorem aEo:S.tree 9059=axF:=by kernel_rfl
theorem XF:S.tree 9060=FI:=by kernel_rfl
theorem ayR:S.tree 9061=aiO:=by kernel_rfl
theorem aEn:S.tree 9062=axE:=by kernel_rfl
theorem XE:S.tree 9063=FH:=by kernel_rfl
theorem ayQ:S.tree 9064=aiN:=by kernel_rfl
theorem aEm:S.tree 9065=axD:=by kernel_rfl
theorem aEl:S.tree 9066=axC:=by kernel_rfl
theorem aEk:S.tree 9067=axB:=by kernel_rfl
theorem aEj:S.tree 9068=axA:=by kernel_rfl
theorem aoC:S.tree 9069=aaR:=by kernel_rfl
theorem aoB:S.tree 9070=aaQ:=by kernel_rfl
theorem aoA:S.tree 9071=aaP:=by kernel_rfl
theorem anZ:S.tree 9072=aaO:=by kernel_rfl
theorem aEi:S.tree 9073=awZ:=by kernel_rfl
theorem aEh:S.tree 9074=awY:=by kernel_rfl
theorem e100:S.tree 100=aCW:=by kernel_rfl
theorem avY:S.tree 101=aCV:=by kernel_rfl
theorem avX:S.tree 102=aCU:=by kernel_rfl
theorem aCs:S.tree 103=aCT:=by kernel_rfl
theorem aCr:S.tree 150=aCS:=by kernel_rfl
theorem avW:S.tree 151=aCR:=by kernel_rfl
theorem aCq:S.tree 200=asQ:=by kernel_rfl
theorem Vg:S.tree 201=t201:=by kernel_rfl
theorem avV:S.tree 202=ajO:=by kernel_rfl
theorem e250:S.tree 250=asP:=by kernel_rfl
theorem e251:S.tree 251=ajM:=by kernel_rfl
theorem e300:S.tree 300=ajL:=by kernel_rfl
theorem e301:S.tree 301=Yx:=by kernel_rfl
theorem e302:S.tree 302=asO:=by kernel_rfl
theorem avU:S.tree 350=ajK:=by kernel_rfl
theorem avT:S.tree 351=Yw:=by kernel_rfl
theorem aCp:S.tree 400=kR:=by kernel_rfl
theorem aEE:S.tree 450=aAQ:=by kernel_rfl
theorem aCo:S.tree 451=asN:=by kernel_rfl
theorem aCn:S.tree 452=asM:=by kernel_rfl
theorem aCm:S.tree 453=asL:=by kernel_rfl
theorem aCl:S.tree 454=asK:=by kernel_rfl
theorem aCk:S.tree 455=asJ:=by kernel_rfl
theorem aCj:S.tree 456=asI:=by kernel_rfl
theorem avS:S.tree 500=aeT:=by kernel_rfl
theorem ahC:S.tree 501=VZ:=by kernel_rfl
theorem aED:S.tree 550=aiY:=by kernel_rfl
theorem aCi:S.tree 551=asH:=by kernel_rfl
theorem aEC:S.tree 552=aCQ:=by kernel_rfl
theorem aEB:S.tree 553=aCP:=by kernel_rfl
theorem aEy:S.tree 600=aAP:=by kernel_rfl
theorem avR:S.tree 650=aiT:=by kernel_rfl
theorem aEx:S.tree 700=aAO:=by kernel_rfl
theorem aEw:S.tree 750=aAN:=by kernel_rfl
theorem aEv:S.tree 800=aAM:=by kernel_rfl
theorem aEu:S.tree 850=aAL:=by kernel_rfl
theorem aCh:S.tree 851=aiS:=by kernel_rfl
theorem aEt:S.tree 900=aAK:=by kernel_rfl
theorem aEg:S.tree 950=aAJ:=by kernel_rfl
theorem aCg:S.tree 951=asG:=by kernel_rfl
theorem aCf:S.tree 952=asF:=by kernel_rfl
theorem J3:S.tree 953=vU:=by kernel_rfl
theorem JZ:S.tree 954=vT:=by kernel_rfl
theorem aAj:S.tree 1000=akB:=by kernel_rfl
theorem aAi:S.tree 1050=V7:=by kernel_rfl
theorem aAh:S.tree 1100=akA:=by kernel_rfl
theorem aAg:S.tree 1101=ayG:=by kernel_rfl
theorem aqE:S.tree 1102=abQ:=by kernel_rfl
theorem aAf:S.tree 1150=ajZ:=by kernel_rfl
theorem aAe:S.tree 1200=ajY:=by kernel_rfl
theorem aAd:S.tree 1250=ajX:=by kernel_rfl
theorem aAc:S.tree 1300=ajW:=by kernel_rfl
theorem aAb:S.tree 1350=ajV:=by kernel_rfl
theorem aAa:S.tree 1400=ajU:=by kernel_rfl
theorem apG:S.tree 1450=abP:=by kernel_rfl
theorem apE:S.tree 1451=V6:=by kernel_rfl
theorem apD:S.tree 1452=V5:=by kernel_rfl
theorem azZ:S.tree 1500=ajT:=by kernel_rfl
theorem apB:S.tree 1501=abO:=by kernel_rfl
theorem azY:S.tree 1550=ajS:=by kernel_rfl
theorem azX:S.tree 1600=ajR:=by kernel_rfl
theorem azW:S.tree 1650=ajQ:=by kernel_rfl
theorem apA:S.tree 1700=V4:=by kernel_rfl
theorem azV:S.tree 1750=Lu:=by kernel_rfl
theorem aoZ:S.tree 1751=abN:=by kernel_rfl
theorem Oj:S.tree 1850=Jf:=by kernel_rfl
theorem azU:S.tree 1900=PU:=by kernel_rfl
theorem aoY:S.tree 1901=abM:=by kernel_rfl
theorem aoX:S.tree 1902=abL:=by kernel_rfl
theorem aER:S.tree 1903=ayF:=by kernel_rfl
theorem azT:S.tree 1904=ajP:=by kernel_rfl
theorem azS:S.tree 1905=ayE:=by kernel_rfl
theorem aEQ:S.tree 1906=ayD:=by kernel_rfl
theorem aEP:S.tree 1907=ayC:=by kernel_rfl
theorem aEO:S.tree 1908=ayB:=by kernel_rfl
theorem aEN:S.tree 1909=ayA:=by kernel_rfl
theorem aoW:S.tree 1910=abK:=by kernel_rfl
theorem azR:S.tree 1911=axZ:=by kernel_rfl
theorem aEM:S.tree 1912=axY:=by kernel_rfl
theorem aoV:S.tree 1913=abJ:=by kernel_rfl
theorem azQ:S.tree 1914=axX:=by kernel_rfl
theorem aEL:S.tree 1915=axW:=by kernel_rfl
theorem aEK:S.tree 1916=axV:=by kernel_rfl
theorem aEJ:S.tree 1917=axU:=by kernel_rfl
theorem aEI:S.tree 1918=axT:=by kernel_rfl
theorem adN:S.tree 1950=V3:=by kernel_rfl
theorem aoU:S.tree 2000=abI:=by kernel_rfl
theorem aEH:S.tree 2001=axS:=by kernel_rfl
theorem aEG:S.tree 2002=axR:=by kernel_rfl
theorem aEF:S.tree 2003=axQ:=by kernel_rfl
theorem aoT:S.tree 2004=abH:=by kernel_rfl
theorem aoS:S.tree 2005=abG:=by kernel_rfl
theorem azP:S.tree 2050=ajN:=by kernel_rfl
theorem aoR:S.tree 2051=abE:=by kernel_rfl
theorem aoQ:S.tree 2052=abD:=by kernel_rfl
theorem azO:S.tree 3500=Ls:=by kernel_rfl
theorem adM:S.tree 3501=PO:=by kernel_rfl
theorem Oi:S.tree 3502=Ef:=by kernel_rfl
theorem SH:S.tree 3503=Lr:=by kernel_rfl
theorem azN:S.tree 5000=ajJ:=by kernel_rfl
theorem azM:S.tree 5050=ajI:=by kernel_rfl
theorem aoP:S.tree 5051=abC:=by kernel_rfl
theorem azL:S.tree 5100=ajH:=by kernel_rfl
theorem azK:S.tree 5101=axP:=by kernel_rfl
theorem azJ:S.tree 5150=ajG:=by kernel_rfl
theorem azI:S.tree 5151=axO:=by kernel_rfl
theorem azH:S.tree 5200=ajF:=by kernel_rfl
theorem azG:S.tree 5201=axN:=by kernel_rfl
theorem azF:S.tree 5250=ajE:=by kernel_rfl
theorem aoO:S.tree 5251=abB:=by kernel_rfl
theorem azE:S.tree 5300=ajD:=by kernel_rfl
theorem aoN:S.tree 5301=abA:=by kernel_rfl
theorem azD:S.tree 5350=ajC:=by kernel_rfl
theorem aoM:S.tree 5351=aaZ:=by kernel_rfl
theorem azC:S.tree 5400=ajB:=by kernel_rfl
theorem aoL:S.tree 5401=aaY:=by kernel_rfl
theorem azB:S.tree 5450=ajA:=by kernel_rfl
theorem azA:S.tree 5451=aiZ:=by kernel_rfl
theorem ayZ:S.tree 5500=aiX:=by kernel_rfl
theorem ayY:S.tree 5501=aiW:=by kernel_rfl
theorem aEA:S.tree 5550=axM:=by kernel_rfl
theorem aEz:S.tree 5551=axL:=by kernel_rfl
theorem ayX:S.tree 5600=aiV:=by kernel_rfl
theorem ayW:S.tree 5601=aiU:=by kernel_rfl
theorem ZY:S.tree 12000=TY:=by kernel_rfl
theorem Vj:S.tree 12001=LJ:=by kernel_rfl
theorem aqD:S.tree 12050=YO:=by kernel_rfl
theorem ZX:S.tree 12051=LH:=by kernel_rfl
theorem ZW:S.tree 12100=TW:=by kernel_rfl
theorem Vh:S.tree 12101=LG:=by kernel_rfl
theorem aqC:S.tree 12150=YN:=by kernel_rfl
theorem ZV:S.tree 12151=LD:=by kernel_rfl
theorem aqB:S.tree 12200=YL:=by kernel_rfl
theorem aqA:S.tree 12250=YK:=by kernel_rfl
theorem apZ:S.tree 12251=YJ:=by kernel_rfl
theorem apY:S.tree 12300=YI:=by kernel_rfl
theorem apX:S.tree 12350=YH:=by kernel_rfl
theorem apW:S.tree 12351=YF:=by kernel_rfl
theorem apV:S.tree 12400=YE:=by kernel_rfl
theorem apU:S.tree 12450=YD:=by kernel_rfl
theorem apT:S.tree 12500=YC:=by kernel_rfl
theorem apS:S.tree 12550=YB:=by kernel_rfl
theorem apR:S.tree 12600=TV:=by kernel_rfl
theorem apQ:S.tree 12650=TU:=by kernel_rfl
theorem apP:S.tree 12700=TS:=by kernel_rfl
theorem apO:S.tree 12750=TQ:=by kernel_rfl
theorem apN:S.tree 12800=YA:=by kernel_rfl
theorem apM:S.tree 12801=TP:=by kernel_rfl
theorem apL:S.tree 12850=Yz:=by kernel_rfl
theorem apK:S.tree 12851=TN:=by kernel_rfl
theorem apI:S.tree 14000=zC:=by kernel_rfl
theorem apF:S.tree 14500=fE:=by kernel_rfl
theorem apH:S.tree 14050=LC:=by kernel_rfl
theorem apC:S.tree 14550=jT:=by kernel_rfl
theorem apJ:S.tree 12900=Yy:=by kernel_rfl
end Go.As.Try
end
section
namespace Go.As.Try
open Go hiding Stat Spec shape
open Go.As Go.Proofs
set_option maxRecDepth 100000
def listed:List Nat:=[9000,9001,9002,9003,9004,9005,9006,9007,9050,9051,9052,9053,9054,9055,9056,9057,9058,9059,9060,9061,9062,9063,9064,9065,9066,9067,9068,9069,9070,9071,9072,9073,9074,100,101,102,103,150,151,200,201,202,250,251,300,301,302,350,351,400,450,451,452,453,454,455,456,500,501,550,551,552,553,600,650,700,750,800,850,851,900,950,951,952,953,954,1000,1050,1100,1101,1102,1150,1200,1250,1300,1350,1400,1450,1451,1452,1500,1501,1550,1600,1650,1700,1750,1751,1850,1900,1901,1902,1903,1904,1905,1906,1907,1908,1909,1910,1911,1912,1913,1914,1915,1916,1917,1918,1950,2000,2001,2002,2003,2004,2005,2050,2051,2052,3500,3501,3502,3503,5000,5050,5051,5100,5101,5150,5151,5200,5201,5250,5251,5300,5301,5350,5351,5400,5401,5450,5451,5500,5501,5550,5551,5600,5601,12000,12001,12050,12051,12100,12101,12150,12151,12200,12250,12251,12300,12350,12351,12400,12450,12500,12550,12600,12650,12700,12750,12800,12801,12850,12851,14000,14500,14050,14550,12900]
noncomputable def trees:List (T Lf):=[PN,vV,aiR,aiQ,aaX,aaW,aaV,aaU,Je,aaT,aaS,axK,aiP,axJ,axI,axH,axG,axF,FI,aiO,axE,FH,aiN,axD,axC,axB,axA,aaR,aaQ,aaP,aaO,awZ,awY,aCW,aCV,aCU,aCT,aCS,aCR,asQ,t201,ajO,asP,ajM,ajL,Yx,asO,ajK,Yw,kR,aAQ,asN,asM,asL,asK,asJ,asI,aeT,VZ,aiY,asH,aCQ,aCP,aAP,aiT,aAO,aAN,aAM,aAL,aiS,aAK,aAJ,asG,asF,vU,vT,akB,V7,akA,ayG,abQ,ajZ,ajY,ajX,ajW,ajV,ajU,abP,V6,V5,ajT,abO,ajS,ajR,ajQ,V4,Lu,abN,Jf,PU,abM,abL,ayF,ajP,ayE,ayD,ayC,ayB,ayA,abK,axZ,axY,abJ,axX,axW,axV,axU,axT,V3,abI,axS,axR,axQ,abH,abG,ajN,abE,abD,Ls,PO,Ef,Lr,ajJ,ajI,abC,ajH,axP,ajG,axO,ajF,axN,ajE,abB,ajD,abA,ajC,aaZ,ajB,aaY,ajA,aiZ,aiX,aiW,axM,axL,aiV,aiU,TY,LJ,YO,LH,TW,LG,YN,LD,YL,YK,YJ,YI,YH,YF,YE,YD,YC,YB,TV,TU,TS,TQ,YA,TP,Yz,TN,zC,fE,LC,jT,Yy]
theorem agC:listed.map S.tree=trees:=by simp only [listed,trees,List.map,aoK,XG,ayV,ayU,aoJ,aoI,aoH,aoG,aoF,aoE,aoD,aEs,ayT,ayS,aEr,aEq,aEp,aEo,XF,ayR,aEn,XE,ayQ,aEm,aEl,aEk,aEj,aoC,aoB,aoA,anZ,aEi,aEh,e100,avY,avX,aCs,aCr,avW,aCq,Vg,avV,e250,e251,e300,e301,e302,avU,avT,aCp,aEE,aCo,aCn,aCm,aCl,aCk,aCj,avS,ahC,aED,aCi,aEC,aEB,aEy,avR,aEx,aEw,aEv,aEu,aCh,aEt,aEg,aCg,aCf,J3,JZ,aAj,aAi,aAh,aAg,aqE,aAf,aAe,aAd,aAc,aAb,aAa,apG,apE,apD,azZ,apB,azY,azX,azW,apA,azV,aoZ,Oj,azU,aoY,aoX,aER,azT,azS,aEQ,aEP,aEO,aEN,aoW,azR,aEM,aoV,azQ,aEL,aEK,aEJ,aEI,adN,aoU,aEH,aEG,aEF,aoT,aoS,azP,aoR,aoQ,azO,adM,Oi,SH,azN,azM,aoP,azL,azK,azJ,azI,azH,azG,azF,aoO,azE,aoN,azD,aoM,azC,aoL,azB,azA,ayZ,ayY,aEA,aEz,ayX,ayW,ZY,Vj,aqD,ZX,ZW,Vh,aqC,ZV,aqB,aqA,apZ,apY,apX,apW,apV,apU,apT,apS,apR,apQ,apP,apO,apN,apM,apL,apK,apI,apF,apH,apC,apJ]
theorem aiG:trees.all (Yi [])=true:=by kernel_rfl
theorem aCv:aAk (lim 322 feT) 322 listed=true:=by kernel_rfl
theorem arX (j:Nat):Yi [] (S.tree j)=true:=by
 cases h:AU St.t j with
 | none=>exact aeP (S:=St) h
 | some e=>
   have hm:S.tree j∈trees:=by rw [← agC];exact List.mem_map_of_mem (cov aCv (fun k hk=>amD hk) h)
   exact List.all_eq_true.1 aiG _ hm
noncomputable def L:uJ:=lim' S.tree
theorem aQ (j:Nat) (xs:List Int):L j xs=fin L (dX (bM L (low xs)) (S.tree j)):=aBb arX j xs
end Go.As.Try
end
section
namespace Go.As.Try
open Go hiding Stat
open Go.As Go.Proofs Go.RowKit Go.ChangeShapes Go.WideShapes Go.ChangeAt
open Go.Proofs.YtmmdeeeifpepjacGreatDoor
set_option maxRecDepth 100000
theorem own:ownKnob Tryz.prog.godebug=none:=by kernel_rfl
theorem laidOut:laidOutB Tryz.prog=true:=by kernel_rfl
def alG:TypeId→Option Nat:=Jz (owns.take 12)
def ownB (P:Program) (own:TypeId→Option Nat) (l:List (Nat×Nat)):Bool:=l.all fun p=>match P.underlying p.1 with
 | some (.slice e)=>decide (yQ P own 8 e=some (oN p.2)) && Nat.beq (P.cellsOf e) (oN p.2).length && Nat.ble (yV p.2) (P.bytesOf e) && Nat.ble 1 (oN p.2).length
 | _=>false
theorem Sj {t i:Nat}: ∀{l:List (Nat×Nat)},Jz l t=some i→(t,i)∈l
 | [],h=>by simp [Jz] at h
 | (a,k) :: l,h=>by
   unfold Jz at h;split at h
   ·rename_i hb;have:=Nat.eq_of_beq_eq_true hb;simp only [Option.some.injEq] at h;subst this h;simp
   ·exact List.mem_cons_of_mem _ (Sj h)
theorem atO {P:Program} {l:List (Nat×Nat)} (h:ownB P (Jz l) l=true):arP P (Jz l):=by
 intro t i hti;have:=List.all_eq_true.1 h _ (Sj hti);simp only at this;split at this
 ·rename_i e he;simp only [Bool.and_eq_true,decide_eq_true_eq] at this;exact⟨e,8,he,this.1.1.1,Nat.eq_of_beq_eq_true this.1.1.2,Nat.le_of_ble_eq_true this.1.2,Nat.le_of_ble_eq_true this.2⟩
 ·simp at this
theorem atN:arP Tryz.prog alG:=atO (by kernel_rfl)
theorem auH {W:World} (h:W.ShapedOpen Tryz.prog):base.ok (QG W) W.heap:=by obtain⟨m,hm⟩:=LaysM.n144.s1_3 Tryz.laysM144 W h;exact⟨aeH hm,m,by rw [← uG]; exact hm⟩
def acJ:DataW Unit→Value
 | .lit (.int k n)=> .int k n
 | _=>undef
def cellsD:DataW Unit→Array Value
 | .agg l=>(l.map acJ).toArray
 | d=> #[acJ d]
def aDq (d:DataW Unit):Obj→Obj
 | .cells _ t f=> .cells (cellsD d) t f
 | o=>o
noncomputable def aBd (h:Array Obj) (x:String×DataW Unit):Array Obj:=match Tryz.prog.globalNamed x.1 with
 | some g=>h.modify g (aDq x.2)
 | none=>h
noncomputable def laidWorld (os:Os):World:=
 { World.holding Tryz.prog os ⟨#[],#[],[]⟩ with heap:=Rows.machineForcesRow.laid.foldl aBd (World.holding Tryz.prog os ⟨#[],#[],[]⟩).heap }
theorem OL {ro:Nat→Prop} {h:Array Obj} {i:Nat} {d:D} {v:Value} (r:Rd ro h (.sl i) d v):uU ro h (.sl i) (enc d) v:=by show Rd ro h (.sl i) (dec (enc d)) v;rw [aC];exact r
theorem arH {ro:Nat→Prop} {h:Array Obj} {u:Value} (a:awX [.one .bool] [1] ro h u):u= .bool true:=by
 obtain⟨us,fl,hs,hc,hu⟩:=a
 cases hs with
 | one c v hs=> cases hs;simp only [uS,RK.flat,List.append_nil,List.cons_append,List.nil_append] at hc;obtain⟨n,ns',u',us',h1,h2,h3,h4⟩:=hc;simp only [List.cons.injEq] at h1 h2;obtain⟨rfl,_⟩:=h1;obtain⟨rfl,_⟩:=h2;rw [hu];exact h3
theorem aqX {g j:Nat} {e:Ib} (hn:j∈S.nums g) (he:S.ents j=some e) (hp:e.pat=none) (hr:e.pK= [.one .bool]) {xs:List Int} (hL:L j xs=some [1]) {W:World} (hsh:W.ShapedOpen Tryz.prog) {vals fl:List Value} (h1:Shape e.OU vals fl) (h2:jJ (QG W) W.heap (uS e.OU) xs fl) :
 Calls Tryz.prog g vals.toArray W fun en W'=>en= .returned (.bool true)∧Below W.heap.size W W':=by
 obtain⟨n,hrun⟩:=UC hL;refine (akC aAR hn he hp n xs [1] hrun (QG W) W vals fl (fun _ h=>h) (auH hsh) h1 h2).mono fun en W' ⟨u,hu,hb,ro',_,_,_,ha⟩=>?_;rw [hr] at ha;rw [arH ha] at hu;exact⟨hu,hb⟩
end Go.As.Try
end
section
namespace Go.As
def prune (Y N:List SB):T Lf→T Lf
 | .fail=> .fail
 | .ret l=> .ret l
 | .split c x y=>match Y.contains c with
   | true=>prune Y N x
   | false=>match N.contains c with
     | true=>prune Y N y
     | false=> .split c (prune Y N x) (prune Y N y)
def zY (ρ:Nat→Int):List SB→Prop
 | []=>True
 | c :: l=>c.den ρ=true∧zY ρ l
def zW (ρ:Nat→Int):List SB→Prop
 | []=>True
 | c :: l=> ¬c.den ρ=true∧zW ρ l
theorem ahT {ρ:Nat→Int}: ∀{l:List SB},zY ρ l→∀c∈l,c.den ρ=true
 | [],_,c,h=>by simp at h
 | a :: l,hz,c,h=>by
   rcases List.mem_cons.1 h with rfl | h
   ·exact hz.1
   ·exact ahT hz.2 c h
theorem ahW {ρ:Nat→Int}: ∀{l:List SB},zW ρ l→∀c∈l,c.den ρ=false
 | [],_,c,h=>by simp at h
 | a :: l,hz,c,h=>by
   rcases List.mem_cons.1 h with rfl | h
   ·simpa using hz.1
   ·exact ahW hz.2 c h
theorem ahU {ρ:Nat→Int}: ∀{a b:List SB},zY ρ a→zY ρ b→zY ρ (a++b)
 | [],_,_,h=>h
 | _ :: _,_,h,h'=> ⟨h.1,ahU h.2 h'⟩
theorem ahX {ρ:Nat→Int}: ∀{a b:List SB},zW ρ a→zW ρ b→zW ρ (a++b)
 | [],_,_,h=>h
 | _ :: _,_,h,h'=> ⟨h.1,ahX h.2 h'⟩
theorem dJ {ρ:Nat→Int} {Y N:List SB} (h:zY ρ Y∧zW ρ N): ∀t,dX ρ (prune Y N t)=dX ρ t
 | .fail=>rfl
 | .ret l=>rfl
 | .split c x y=>by
   simp only [prune,dX];split
   ·rename_i h';rw [ahT h.1 c (List.contains_iff_mem.1 h'),if_pos rfl];exact dJ h x
   ·split
    ·rename_i h';rw [ahW h.2 c (List.contains_iff_mem.1 h'),if_neg (by simp)];exact dJ h y
    ·simp only [dX,dJ h x,dJ h y]
theorem aW {ρ:Nat→Int} (Y N:List SB) {t:T Lf} {R:RS} (u:T Lf) (h:zY ρ Y∧zW ρ N) (k:prune Y N t=u) (h':dX ρ u=R):dX ρ t=R:=by rw [← dJ h t,k,h']
theorem zz :
 (∀{ρ:Nat→Int} (c:SB) (a b:T Lf),dX ρ (sp c a b)=if c.den ρ=true then dX ρ a else dX ρ b)∧
 (∀{ρ:Nat→Int} (l:List SE),dX ρ (ou l)= .out (l.map (SE.den ρ)))∧
 (∀{ρ:Nat→Int} (j:Nat) (l:List SE),dX ρ (ju j l)= .jump j (l.map (SE.den ρ)))∧
 (∀{ρ:Nat→Int},dX ρ fl= .no)∧
 (∀{ρ:Nat→Int} (a b:SE),((SB.lt a b).den ρ=true)=(a.den ρ < b.den ρ))∧
 (∀{ρ:Nat→Int} (a b:SE),((SB.eq a b).den ρ=true)=(a.den ρ=b.den ρ))∧
 (∀(F:uJ) (lo:Nat→Int),(SE.aK 0).den (bM F lo)=lo 0)∧
 (∀(F:uJ) (lo:Nat→Int),(SE.aK 1).den (bM F lo)=lo 1)∧
 (∀(F:uJ) (lo:Nat→Int),(SE.aK 2).den (bM F lo)=lo 2)∧
 (∀(F:uJ) (lo:Nat→Int),(SE.aK 3).den (bM F lo)=lo 3)∧
 (∀(F:uJ) (lo:Nat→Int),(SE.aK 4).den (bM F lo)=lo 4)∧
 (∀(F:uJ) (lo:Nat→Int),(SE.aK 5).den (bM F lo)=lo 5)∧
 (∀(F:uJ) (lo:Nat→Int),(SE.aK 6).den (bM F lo)=lo 6)∧
 (∀(F:uJ) (lo:Nat→Int),(SE.aK 7).den (bM F lo)=lo 7)∧
 (∀(F:uJ) (lo:Nat→Int),(SE.aK 8).den (bM F lo)=lo 8)∧
 (∀(F:uJ) (lo:Nat→Int),(SE.aK 9).den (bM F lo)=lo 9)∧
 (∀(F:uJ) (lo:Nat→Int),(SE.aK 10).den (bM F lo)=lo 10)∧
 (∀(F:uJ) (lo:Nat→Int),(SE.aK 11).den (bM F lo)=lo 11)∧
 (∀(F:uJ) (lo:Nat→Int),(SE.aK 12).den (bM F lo)=lo 12)∧
 (∀(F:uJ) (lo:Nat→Int),(SE.aK 13).den (bM F lo)=lo 13)∧
 (∀(F:uJ) (lo:Nat→Int),(SE.aK 14).den (bM F lo)=lo 14)∧
 (∀(F:uJ) (lo:Nat→Int),(SE.aK 15).den (bM F lo)=lo 15)∧
 (∀(F:uJ) (lo:Nat→Int),(SE.aK 16).den (bM F lo)=lo 16)∧
 (∀(F:uJ) (lo:Nat→Int),(SE.aK 17).den (bM F lo)=lo 17)∧
 (∀(F:uJ) (lo:Nat→Int),(SE.aK 18).den (bM F lo)=lo 18)∧
 (∀(F:uJ) (lo:Nat→Int),(SE.aK 19).den (bM F lo)=lo 19)∧
 (∀(F:uJ) (lo:Nat→Int),(SE.aK 20).den (bM F lo)=lo 20)∧
 (∀(F:uJ) (lo:Nat→Int),(SE.aK 21).den (bM F lo)=lo 21)∧
 (∀(F:uJ) (lo:Nat→Int),(SE.aK 22).den (bM F lo)=lo 22)∧
 (∀(F:uJ) (lo:Nat→Int),(SE.aK 23).den (bM F lo)=lo 23)∧
 (∀(F:uJ) (lo:Nat→Int),(SE.aK 24).den (bM F lo)=lo 24)∧
 (∀(F:uJ) (lo:Nat→Int),(SE.aK 25).den (bM F lo)=lo 25)∧
 (∀{ρ:Nat→Int} (n:Int),(SE.lit n).den ρ=n)∧
 (∀{ρ:Nat→Int} (d:D),(SE.dat d).den ρ=enc d)∧
 (∀{ρ:Nat→Int} (a:SE),(ln a).den ρ=((dec (a.den ρ)).l.length:Int))∧
 (∀{ρ:Nat→Int} (a:SE),(nm a).den ρ=(dec (a.den ρ)).n)∧
 (∀{ρ:Nat→Int} (j:Nat) (a:SE),(ce j a).den ρ=enc ((dec (a.den ρ)).hd j))∧
 (∀{ρ:Nat→Int} (a b:SE),(el a b).den ρ=enc ((dec (a.den ρ)).at (b.den ρ)))∧
 (∀{ρ:Nat→Int} (a b:SE),(cn a b).den ρ=enc (.p (dec (a.den ρ)) (dec (b.den ρ))))∧
 (∀{ρ:Nat→Int} (a:SE),(mk a).den ρ=enc (.i (a.den ρ)))∧
 (∀{ρ:Nat→Int} (a:SE),(wr a).den ρ=IntKind.i64.wrap (a.den ρ))∧
 (∀{ρ:Nat→Int} (a b:SE),(SE.add a b).den ρ=a.den ρ+b.den ρ)∧
 (∀{ρ:Nat→Int} (a b:SE),(SE.sub a b).den ρ=a.den ρ - b.den ρ)∧
 (∀{ρ:Nat→Int} (o:iL) (a b:SE),(SE.op o a b).den ρ=o.den (a.den ρ) (b.den ρ))∧
 (∀{F:uJ} {lo:Nat→Int} (j:Nat) (l:List SE),(a0 j l).den (bM F lo)=if (F j (l.map (SE.den (bM F lo)))).isSome=true then 1 else 0)∧
 (∀{F:uJ} {lo:Nat→Int} (j:Nat) (l:List SE) (i:Nat),(rr j l i).den (bM F lo)=low ((F j (l.map (SE.den (bM F lo)))).getD []) i)∧
 (∀{x:Int} {xs:List Int},low (x :: xs) 0=x)∧
 (∀{x:Int} {xs:List Int} {i:Nat},low (x :: xs) (i+1)=low xs i)∧
 (∀{f:SE→Int},List.map f []= [])∧
 (∀{f:SE→Int} {a:SE} {l:List SE},List.map f (a :: l)=f a :: List.map f l)∧
 (∀d:D,dec (enc d)=d)∧
 (∀n:Int,(D.i n).n=n)∧
 (∀{α:Type} (a:α),(some a).isSome=true)∧
 (∀{α:Type} (a b:α),(some a).getD b=a)∧
 (∀{α:Type} {_:Decidable True} (a b:α),ite True a b=a)∧
 (∀{α:Type} {_:Decidable False} (a b:α),ite False a b=b)∧
 (∀{ρ:Nat→Int},zY ρ []=True)∧
 (∀{ρ:Nat→Int} (c:SB) (l:List SB),zY ρ (c :: l)=(c.den ρ=true∧zY ρ l))∧
 (∀{ρ:Nat→Int},zW ρ []=True)∧
 (∀{ρ:Nat→Int} (c:SB) (l:List SB),zW ρ (c :: l)=(¬c.den ρ=true∧zW ρ l))∧
 (∀x y:Int,iL.den .len x y=((dec x).l.length:Int))∧
 (∀x y:Int,iL.den .at x y=enc ((dec x).at y))∧
 (∀(x y:Int) (j:Nat),iL.den (.cell j) x y=enc ((dec x).hd j))∧
 (∀x y:Int,iL.den .num x y=(dec x).n)∧
 (∀x y:Int,iL.den .mk x y=enc (.i x))∧
 (∀x y:Int,iL.den .cons x y=enc (.p (dec x) (dec y)))∧
 (∀x y:Int,iL.den .snoc x y=enc (dL ((dec x).l++ [dec y])))∧
 (∀x y:Int,iL.den .cat x y=enc (dL ((dec x).l++(dec y).l)))∧
 (∀x y:Int,iL.den .take x y=enc (iQ (dec x) ((dec x).l.take y.toNat)))∧
 (∀x y:Int,iL.den .drop x y=enc (iQ (dec x) ((dec x).l.drop y.toNat)))∧
 (∀(x:Int) (q v:D),iL.den .set x (enc (.p q v))=enc (dL (dY (dec x).l q.n v)))∧
 (∀x y:Int,iL.den .bit x y=enc (.i (if (dec x).n=0 then 0 else 1)))∧
 (∀x y:Int,iL.den .norm x y=enc (dec x))∧
 (∀x y:Int,iL.den .JU x y=if (oO (dec x).l (dec y)).isSome then 1 else 0)∧
 (∀x y:Int,iL.den .JV x y=enc ((oO (dec x).l (dec y)).getD (.i 0)))∧
 (∀(x:Int) (k v:D),iL.den .D7 x (enc (.p k v))=enc (dL (BK (dec x).l k v)))∧
 (∀x y:Int,iL.den .rep x y=enc (dL (List.replicate x.toNat (dec y))))∧
 (∀(x:Int) (q v:D),iL.den .fill x (enc (.p q v))=enc (dL ((dec x).l.take q.n.toNat++List.replicate ((dec x).l.length - q.n.toNat) v)))∧
 (∀x y:Int,iL.den .sub x y=enc (dL (((dec x).l.take ((dec y).hd 1).n.toNat).drop ((dec y).hd 0).n.toNat)))∧
 (∀x y:Int,iL.den .idx x y=OB (dec x).l y)∧
 (∀x y:Int,iL.den .cnt x y=aqQ (dec x).l y)∧
 (∀x y:Int,iL.den .con x y=if ahG (dec x).l (dec y).l then 1 else 0)∧
 (∀x y:Int,iL.den .slt x y=if XK (dec x).l (dec y).l then 1 else 0)∧
 (∀x y:Int,iL.den .Zb x y=enc (dL (Ux (dec x).l (dec y))))∧
 (∀p:Prop,(p∧True)=p)∧(∀p:Prop,(True∧p)=p)∧(¬False)=True:=
 ⟨dP,jU,pF,zF,oM,iO,fun _ _=>aP (by decide),fun _ _=>aP (by decide),fun _ _=>aP (by decide),fun _ _=>aP (by decide),fun _ _=>aP (by decide),fun _ _=>aP (by decide),fun _ _=>aP (by decide),fun _ _=>aP (by decide),fun _ _=>aP (by decide),fun _ _=>aP (by decide),fun _ _=>aP (by decide),fun _ _=>aP (by decide),fun _ _=>aP (by decide),fun _ _=>aP (by decide),fun _ _=>aP (by decide),fun _ _=>aP (by decide),fun _ _=>aP (by decide),fun _ _=>aP (by decide),fun _ _=>aP (by decide),fun _ _=>aP (by decide),fun _ _=>aP (by decide),fun _ _=>aP (by decide),fun _ _=>aP (by decide),fun _ _=>aP (by decide),fun _ _=>aP (by decide),fun _ _=>aP (by decide),bP,iU,iC,I5,aqH,I7,Ou,Ot,Ci,den_add,awJ,Oq,iK,gQ,aN _,aO _ _,rfl,rfl,aC,WO,fun _=>rfl,fun _ _=>rfl,fun _ _=>if_pos trivial,fun _ _=>if_neg id,rfl,fun _ _=>rfl,rfl,fun _ _=>rfl,fun _ _=>rfl,fun _ _=>rfl,fun _ _ _=>rfl,fun _ _=>rfl,fun _ _=>rfl,fun _ _=>rfl,fun _ _=>rfl,fun _ _=>rfl,fun _ _=>rfl,fun _ _=>rfl,fun _ _ _=>by show (match dec (enc _) with | .p q v=>_ | _=>_)=_; rw [aC],fun _ _=>rfl,fun _ _=>rfl,fun _ _=>rfl,fun _ _=>rfl,fun _ _ _=>by show (match dec (enc _) with | .p q v=>_ | _=>_)=_; rw [aC],fun _ _=>rfl,fun _ _ _=>by show (match dec (enc _) with | .p q v=>_ | _=>_)=_; rw [aC],fun _ _=>rfl,fun _ _=>rfl,fun _ _=>rfl,fun _ _=>rfl,fun _ _=>rfl,fun _ _=>rfl,and_true,true_and,not_false_eq_true⟩
theorem zg:(∀(l:List D) (j:Nat),(dL l).hd j=(l[j]?).getD (.i 0))∧(∀(a:D) (l:List D),(a :: l)[0]?=some a)∧(∀(a:D) (l:List D) (i:Nat),(a :: l)[i+1]?=l[i]?):=⟨gU,fun _ _=>rfl,fun _ _ _=>rfl⟩
end Go.As
end
section
namespace Go.As.Try
open Go hiding Stat Spec shape
open Go.As
set_option maxRecDepth 100000
def Ends (p:List Int→Prop) (R:RS):Prop:= ∃ys,fin L R=some ys∧p ys
def Tot (j:Nat) (xs:List Int) (p:List Int→Prop):Prop:= ∃ys,L j xs=some ys∧p ys
theorem Tot.of {j:Nat} {xs:List Int} {p:List Int→Prop} (h:Ends p (dX (bM L (low xs)) (S.tree j))):Tot j xs p:=by obtain⟨ys,h1,h2⟩:=h;exact⟨ys,by rw [aQ]; exact h1,h2⟩
theorem Ends.ite {p:List Int→Prop} {c:Prop} [Decidable c] {a b:RS} (h1:c→Ends p a) (h2: ¬c→Ends p b):Ends p (if c then a else b):=by
 by_cases h:c
 ·rw [if_pos h]; exact h1 h
 ·rw [if_neg h]; exact h2 h
theorem Ends.out {p:List Int→Prop} {ys:List Int} (h:p ys):Ends p (.out ys):=⟨ys,rfl,h⟩
theorem Ends.jump {p:List Int→Prop} {j:Nat} {xs:List Int} (h:Tot j xs p):Ends p (.jump j xs):=h
def E5 (ys:List Int):Prop:= ∃c:Int,ys= [c]∧(c=0∨c=1)
def is3 (ys:List Int):Prop:= ∃a b c:Int,ys= [a,b,c]∧(c=0∨c=1)
theorem zV:E5 [0]:=⟨0,rfl,.inl rfl⟩
theorem zT:E5 [1]:=⟨1,rfl,.inr rfl⟩
theorem Xa {a b:Int}:is3 [a,b,0]:=⟨a,b,0,rfl,.inl rfl⟩
theorem ayM {a b:Int}:is3 [a,b,1]:=⟨a,b,1,rfl,.inr rfl⟩
def kY (x:D):D:=dL [.i (-1),.i (if (x.hd 0).n=3∨(x.hd 0).n=9 then (x.hd 2).n else 0),.i 0,.i 0,.i 1,.i 1]
theorem OT (d0:D) (hlen:d0.l.length≤64): ∀(k i:Nat) (acc:List D),i+k=d0.l.length→acc.length=i→
 L 302 [enc (dL acc),enc d0,(d0.l.length:Int),(i:Int)]=some [enc (dL (acc++(d0.l.drop i).map kY))]
 | 0,i,acc,h1,h2=>by rw [aQ,e302];simp only [asO,dP,jU,oM,aP,aN,aO,Nat.reduceLT,fin,List.map];rw [if_neg (by omega)];simp only [fin,aP,aN,Nat.reduceLT];rw [List.drop_of_length_le (by omega)];simp
 | k+1,i,acc,h1,h2=>by
   have hi:i < d0.l.length:=by omega
   have hd:d0.l.drop i=d0.l[i] :: d0.l.drop (i+1):=List.drop_eq_getElem_cons hi;have ih:=fun x=>OT d0 hlen k (i+1) (acc++ [x]) (by omega) (by simp [h2]);rw [aQ,e302,hd];simp only [asO,dP,jU,pF,zF,oM,iO,aP,iC,bP,I5,aqH,I7,Oq,Ou,Ot,iU,Ci,den_add,aN,aO,Nat.reduceLT,List.map,aC,aT,aZ hi];have w:=bC (n:=i) (by omega);have c1:(i:Int) < (d0.l.length:Int):=by omega
   have c2: ¬((i:Int) < 0):=by omega
   have c3:(acc.length:Int) < 1759218604440:=by omega
   simp only [c1,c2,c3,w,if_true,if_false,fin,iL.den,aC,aT];by_cases h3:(d0.l[i].hd 0).n=3
   ·simp only [h3,if_true,fin];have:=ih (kY d0.l[i]);simp only [kY,h3,true_or,if_true,dL] at this ⊢;rw [this];simp
   ·by_cases h9:(d0.l[i].hd 0).n=9
    ·simp only [if_neg h3,if_pos h9,fin];have:=ih (kY d0.l[i]);simp only [kY,if_pos (Or.inr h9:(d0.l[i].hd 0).n=3∨(d0.l[i].hd 0).n=9),dL] at this ⊢;rw [this];simp
    ·simp only [if_neg h3,if_neg h9,fin];have:=ih (kY d0.l[i]);simp only [kY,h3,h9,or_self,if_false,dL] at this ⊢;rw [this];simp
end Go.As.Try
end
section
namespace Go.As.Try
open Go hiding Stat Spec shape
open Go.As
set_option maxRecDepth 100000
def Bs (d:D):Prop:=d=dL d.l∧∀(i:Nat) (h:i < d.l.length),0≤(d.l[i]).n∧(d.l[i]).n < 256
theorem aCx (s:ByteArray):Bs (Aw s):=by unfold Aw wH;refine⟨by rw [aT],fun i h=>?_⟩;simp only [aT,List.length_map,List.getElem_map,D.n] at h ⊢;have:=(s.data.toList[i]).toNat_lt;omega
theorem Jr (d:D) (hb:Bs d) (hlen:d.l.length≤1000000): ∀(k i:Nat) (n:Int),i+k=d.l.length→∃a b,L 1102 [n,enc d,(d.l.length:Int),(i:Int)]=some [a,b]
 | 0,i,n,h1=>by rw [aQ,aqE];simp only [abQ,dP,jU,oM,aP,aN,aO,Nat.reduceLT,List.map,bP];rw [if_neg (by omega)];exact⟨_,_,rfl⟩
 | k+1,i,n,h1=>by
   have hi:i < d.l.length:=by omega
   have ih:=fun x=>Jr d hb hlen k (i+1) x (by omega);rw [aQ,aqE];have w:=bC (n:=i) (by omega);have c1:(i:Int) < (d.l.length:Int):=by omega
   have c2: ¬((i:Int) < 0):=by omega
   simp only [abQ,dP,jU,pF,zF,oM,aP,aN,aO,Nat.reduceLT,List.map,bP,iC,aC,c1,c2,if_true,if_false,Ci,den_add,w];split
   ·exact⟨_,_,rfl⟩
   ·exact ih _
theorem Y8 (d:D) (hb:Bs d) (hlen:d.l.length≤1000000): ∃a b,L 1100 [enc d]=some [a,b]:=by
 rw [aQ,aAh];simp only [akA,dP,pF,iO,aP,aN,aO,Nat.reduceLT,List.map,bP,iC,aC];split
 ·show ∃a b,L 1101 []=some [a,b];rw [aQ,aAg];exact⟨_,_,rfl⟩
 ·exact Jr d hb hlen d.l.length 0 _ (by omega)
theorem SL (z:Int): ∀(l:List D) (i:Nat),xB z l (i:Int)= -1∨((i:Int)≤xB z l i∧xB z l i < (i:Int)+l.length)
 | [],i=> .inl rfl
 | d :: l,i=>by
   have ih:=SL z l (i+1);have hc:((i+1:Nat):Int)=(i:Int)+1:=by omega
   rw [hc] at ih;have hl:((d :: l).length:Int)=(l.length:Int)+1:=by simp
   cases d with
   | i n=>
     simp only [xB];split
     ·right; omega
     ·rcases ih with h | ⟨h1,h2⟩
      ·left; exact h
      ·right; omega
   | p a b=>
     simp only [xB];rcases ih with h | ⟨h1,h2⟩
     ·left; exact h
     ·right; omega
theorem aqP {z:Int} {d:D} {l:List D} (h:d≠.i z) (h0: ¬OB (d :: l) z < 0):1≤OB (d :: l) z∧OB (d :: l) z < (l.length:Int)+1:=by
 have h1:=SL z l 1
 have key:OB (d :: l) z=xB z l ((1:Nat):Int):=by
  unfold OB
  cases d with
  | i n=> simp only [xB];rw [if_neg (by intro q; exact h (by rw [q]))];rfl
  | p a b=>rfl
 rw [key] at h0 ⊢;omega
theorem aES:(b0.at 10).n=1:=by show (b0.at ((10:Nat):Int)).n=1;kernel_rfl
theorem CJ (d:D) (hb:Bs d) (hlen:d.l.length≤1000000) (x1:Int): ∀(k i:Nat),d.l.length - i≤k→i≤d.l.length→∃p:Nat,p≤d.l.length∧L 12801 [enc d,x1,(i:Int)]=some [0,enc d,x1,(p:Int)]
 | k,i,h1,h2=>by
   rw [aQ,apM];have c2: ¬((i:Int) < 0):=by omega
   by_cases hi:i < d.l.length
   ·have c1:(i:Int) < (d.l.length:Int):=by omega
    have w:=bC (n:=i) (by omega);obtain⟨b1,b2⟩:=hb.2 i hi;have b1: ¬(d.l[i]).n < 0:=by omega
    obtain⟨k,rfl⟩ : ∃k',k=k'+1:=⟨k - 1,by omega⟩;have hdr:(d.l.take d.l.length).drop i=d.l[i] :: d.l.drop (i+1):=by rw [List.take_length,List.drop_eq_getElem_cons hi]
    simp only [TP,dP,jU,pF,zF,oM,iO,aP,aN,aO,Nat.reduceLT,List.map,bP,iU,iC,aC,c1,c2,if_true,if_false,Ci,den_add,w,I5,I7,aZ hi,b1,b2];by_cases q1:(b0.at (d.l[i]).n).n=1
    ·simp only [q1,if_true];exact CJ d hb hlen x1 k (i+1) (by omega) (by omega)
    ·by_cases q2:(b0.at (d.l[i]).n).n=2
     ·simp only [if_neg q1,if_pos q2]
      have hne:d.l[i]≠.i 10:=by intro h;rw [h] at q1;exact q1 aES
      simp only [Int.lt_irrefl,if_false,Oq,iL.den,Ou,Ot,iU,iC,aP,bP,aN,aO,Nat.reduceLT,aC,D.hd,l_p,Ba,WO,List.getElem?_cons_zero,List.getElem?_cons_succ,Option.getD_some,Int.toNat_natCast,aT,hdr];split
      ·exact⟨d.l.length,Nat.le_refl _,by simp [fin]⟩
      ·rename_i h0;obtain⟨g1,g2⟩:=aqP hne h0;rw [List.length_drop] at g2;obtain⟨m,hm⟩ : ∃m:Nat,OB (d.l[i] :: d.l.drop (i+1)) 10=(m:Int):=⟨(OB (d.l[i] :: d.l.drop (i+1)) 10).toNat,by omega⟩;have w2:IntKind.i64.wrap ((i:Int)+(m:Int))=((i+m:Nat):Int):=by rw [qE (by omega) (by omega)]; omega
       simp only [hm,w2,fin];exact CJ d hb hlen x1 k (i+m) (by omega) (by omega)
     ·simp only [if_neg q1,if_neg q2];exact⟨i,by omega,rfl⟩
   ·have c1: ¬(i:Int) < (d.l.length:Int):=by omega
    simp only [TP,dP,jU,oM,aP,aN,aO,Nat.reduceLT,List.map,bP,iC,aC,c1,if_false];exact⟨i,by omega,rfl⟩
theorem aaB (d:D) (hb:Bs d) (hlen:d.l.length≤1000000) (i:Nat) (hi:i≤d.l.length): ∃p:Nat,p≤d.l.length∧L 12800 [enc d,(i:Int)]=some [0,enc d,(i:Int),(p:Int)]:=by rw [aQ,apN];simp only [YA,pF,aP,aN,aO,Nat.reduceLT,List.map];exact CJ d hb hlen _ _ i (Nat.le_refl _) hi
theorem SC (d:D) (hb:Bs d) (hlen:d.l.length≤1000000) (x1 x2:Int): ∀(k i:Nat),d.l.length - i≤k→i≤d.l.length→∃p:Nat,i≤p∧p≤d.l.length∧L 12851 [enc d,x1,x2,(i:Int)]=some [0,enc d,x1,(p:Int)]
 | k,i,h1,h2=>by
   rw [aQ,apK];have c2: ¬((i:Int) < 0):=by omega
   by_cases hi:i < d.l.length
   ·have c1:(i:Int) < (d.l.length:Int):=by omega
    have w:=bC (n:=i) (by omega);obtain⟨b1,b2⟩:=hb.2 i hi;have b1: ¬(d.l[i]).n < 0:=by omega
    obtain⟨k,rfl⟩ : ∃k',k=k'+1:=⟨k - 1,by omega⟩
    have ih: ∃p:Nat,i≤p∧p≤d.l.length∧L 12851 [enc d,x1,x2,((i+1:Nat):Int)]=some [0,enc d,x1,(p:Int)]:=by obtain⟨p,q1,q2,q3⟩:=SC d hb hlen x1 x2 k (i+1) (by omega) (by omega);exact⟨p,by omega,q2,q3⟩
    simp only [TN,dP,jU,pF,zF,oM,iO,aP,aN,aO,Nat.reduceLT,List.map,bP,iU,iC,aC,c1,c2,if_true,if_false,Ci,den_add,w,I5,I7,aZ hi,b1,b2];split
    ·exact ih
    ·split
     ·split
      ·exact ih
      ·exact⟨i,by omega,by omega,rfl⟩
     ·exact⟨i,by omega,by omega,rfl⟩
   ·have c1: ¬(i:Int) < (d.l.length:Int):=by omega
    simp only [TN,dP,jU,oM,aP,aN,aO,Nat.reduceLT,List.map,bP,iC,aC,c1,if_false];exact⟨i,by omega,by omega,rfl⟩
theorem acL {l:List D} {a b:D} (h:enc (dL l)=enc (.p a (.p b (.i 0)))):l.length=2:=by have:=congrArg (fun d=>d.l.length) (lV h);simpa [D.l] using this
theorem anT (d:D) (hb:Bs d) (hlen:d.l.length≤1000000) (i:Nat) (hi:i < d.l.length): ∃p:Nat,i < p∧p≤d.l.length∧L 12850 [enc d,(i:Int)]=some [0,enc d,(i:Int),(p:Int)]:=by
 have c2: ¬((i:Int) < 0):=by omega
 have c1:(i:Int) < (d.l.length:Int):=by omega
 have w:=bC (n:=i) (by omega);have w1:=bC (n:=i+1) (by omega);have w2:IntKind.i64.wrap ((i:Int)+2)=((i+2:Nat):Int):=by rw [qE (by omega) (by omega)]; omega
 obtain⟨b1,b2⟩:=hb.2 i hi;have b1: ¬(d.l[i]).n < 0:=by omega
 have c3: ¬(((i+2:Nat):Int) < (i:Int)):=by omega
 rw [aQ,apL];simp only [Yz,dP,jU,pF,zF,oM,iO,aP,aN,aO,Nat.reduceLT,List.map,bP,iC,aC,c1,c2,c3,if_true,if_false,Ci,den_add,w,w1,w2,I5,I7,aZ hi,b1,b2,Int.lt_irrefl,Oq,iL.den,Ou,Ot,iU,D.hd,l_p,Ba,WO,List.getElem?_cons_zero,List.getElem?_cons_succ,Option.getD_some,Int.toNat_natCast];split
 ·split
  ·rename_i h5;split
   ·rename_i h6;have:=acL h6;simp only [List.length_drop,List.length_take] at this;omega
   ·split
    ·rename_i h6;have:=acL h6;simp only [List.length_drop,List.length_take] at this;omega
    ·exact⟨i+1,by omega,by omega,rfl⟩
  ·rename_i h5;split
   ·exact⟨i+1+1,by omega,by omega,rfl⟩
   ·split
    ·exact⟨i+1+1,by omega,by omega,rfl⟩
    ·exact⟨i+1,by omega,by omega,rfl⟩
 ·obtain⟨p,q1,q2,q3⟩:=SC d hb hlen (i:Int) ((b0.at (d.l[i]).n).n) _ (i+1) (Nat.le_refl _) (by omega);exact⟨p,by omega,q2,q3⟩
theorem awN {d:D} (hb:Bs d) (a b:Nat):Bs (dL ((d.l.take b).drop a)):=by
 refine⟨by rw [aT],fun i h=>?_⟩;simp only [aT] at h ⊢
 have hl:i < d.l.length - a:=by simp only [List.length_drop,List.length_take] at h;omega
 have:((d.l.take b).drop a)[i]=d.l[a+i]:=by simp
 rw [this];exact hb.2 _ _
theorem alS (d:D) (hb:Bs d): ∃k s n ln a e er el',L 1050 [enc d,0]=some [k,s,n,ln,a,e,er,el']:=by
 rw [aQ,aAi];by_cases hg:(16384:Int) < (d.l.length:Int)
 ·simp only [V7,dP,jU,oM,aP,aN,aO,Nat.reduceLT,List.map,bP,iC,aC,hg,if_true];exact⟨_,_,_,_,_,_,_,_,rfl⟩
 ·obtain⟨p,hp,hB⟩:=aaB d hb (by omega) 0 (by omega);have hB':L 12800 [enc d,0]=some [0,enc d,0,(p:Int)]:=hB;have c0: ¬((0:Int) < 0):=by omega
  have c1: ¬((d.l.length:Int) < 0):=by omega
  have c2: ¬((p:Int) < 0):=by omega
  have c3: ¬((d.l.length:Int) < (p:Int)):=by omega
  by_cases he:(p:Int)=(d.l.length:Int)
  ·simp only [V7,dP,jU,zF,oM,iO,aP,aN,aO,Nat.reduceLT,List.map,bP,iC,aC,hg,if_false,c0,c1,iK,gQ,hB',Option.isSome_some,if_true,Option.getD_some,c2,c3,he,Int.lt_irrefl,fin];exact⟨_,_,_,_,_,_,_,_,rfl⟩
  ·obtain⟨e,h1,h2,hE⟩:=anT d hb (by omega) p (by omega);have c4: ¬((e:Int) < (p:Int)):=by omega
   have c5: ¬((d.l.length:Int) < (e:Int)):=by omega
   have hpart:=awN hb p e;have hpl:((d.l.take e).drop p).length=e - p:=by simp only [List.length_drop,List.length_take]; omega
   have hp0:0 < ((d.l.take e).drop p).length:=by omega
   obtain⟨na,nb,hN⟩:=Y8 _ hpart (by rw [aT]; omega);obtain⟨b1,b2⟩:=hpart.2 0 (by rw [aT]; exact hp0);generalize hq:(d.l.take e).drop p=q at *;simp only [aT] at b1 b2;have b1: ¬(q[0]).n < 0:=by omega
   have hat:(dL q).at 0=q[0]:=by have:=aZ (d:=dL q) (i:=0) (by rw [aT]; exact hp0);simpa using this
   have c6:(0:Int) < (q.length:Int):=by omega
   have c7:(q.length:Int) < 1000000000:=by omega
   have c8:((([D.i 32]++q:List D).length:Nat):Int) < 1000000000:=by simp only [List.length_append,List.length_cons,List.length_nil]; omega
   simp only [V7,dP,jU,zF,oM,iO,aP,aN,aO,Nat.reduceLT,List.map,bP,iC,aC,hg,if_false,c0,c1,iK,gQ,hB',hE,Option.isSome_some,if_true,Option.getD_some,c2,c3,c4,c5,if_neg he,Oq,iL.den,Ou,Ot,iU,D.hd,l_p,Ba,WO,List.getElem?_cons_zero,List.getElem?_cons_succ,Int.toNat_natCast,hq,aT,c6,c7,c8,I5,I7,hat,b1,b2,hN]
   repeat' first | exact⟨_,_,_,_,_,_,_,_,rfl⟩ | split
theorem nM (d:D) (hb:Bs d): ∃b,(b=0∨b=1)∧L 1000 [enc d]=some [b]:=by
 obtain⟨k,s,n,ln',a,e,er,el',h⟩:=alS d hb;rw [aQ,aAj];simp only [akB,dP,jU,zF,iO,aP,aN,aO,Nat.reduceLT,List.map,bP,iK,gQ,h,Option.isSome_some,if_true,Option.getD_some];split
 ·split
  ·split
   ·exact⟨1,.inr rfl,rfl⟩
   ·exact⟨0,.inl rfl,rfl⟩
  ·exact⟨0,.inl rfl,rfl⟩
 ·exact⟨0,.inl rfl,rfl⟩
end Go.As.Try
end
section
namespace Go.As.Try
open Go hiding Stat Spec shape
open Go.As
set_option maxRecDepth 100000
theorem aCK {d:D} (h:Wd .str d):Bs d:=by obtain⟨s,rfl⟩:=h.s;exact aCx s
theorem DJ {kids:D} (h:Wd (.sl 6) kids) {i:Nat} (hi:i < kids.l.length): ∃k s n ks,kids.l[i]=dL [.i k,s,.i n,ks]∧iP .u8 k∧Wd .str s∧iP .i64 n∧Wd (.sl 6) ks:=by
 obtain⟨r,h1,hl,hc⟩:=h.elN (cs:=[.int .u8,.str,.int .i64,.sl 6]) rfl _ (List.getElem_mem hi)
 match r,hl with
 | [a,b,c,d],_=> obtain⟨k,rfl,hk⟩:=(hc 0 _ _ rfl rfl).i;obtain⟨n,rfl,hn⟩:=(hc 2 _ _ rfl rfl).i;exact⟨k,b,n,d,h1,hk,hc 1 _ _ rfl rfl,hn,hc 3 _ _ rfl rfl⟩
theorem aeQ (d:D) (hb:Bs d): ∃b,(b=0∨b=1)∧L 12900 [enc d,0]=some [b,enc d,0]:=by
 obtain⟨b,hb1,h⟩:=nM d hb;rw [aQ,apJ];simp only [Yy,zz,h];rcases hb1 with rfl | rfl
 ·exact⟨_,.inl rfl,rfl⟩
 ·exact⟨_,.inr rfl,rfl⟩
theorem QH: ∀(m deep:Nat),21 - deep≤m→∀(k n left loc:Int) (s kids:D),Wd .str s→Wd (.sl 6) kids→
 Tot 5050 [k,enc s,n,enc kids,(deep:Int),left,loc] is3
 | m,deep,hm,k,n,left,loc,s,kids,hs,hk=>by
   refine Tot.of ?_;rw [azM];simp only [ajI,zz];refine .ite (fun _=> .out Xa) fun _=> .ite (fun _=> .out Xa) fun hd=> .jump ?_;obtain⟨m,rfl⟩ : ∃m',m=m'+1:=⟨m - 1,by omega⟩;have ih:=QH m (deep+1) (by omega);have hlen:=hk.len;have w0:=bC (n:=deep) (by omega)
   have loop: ∀(j i:Nat) (l' c':Int),i+j=kids.l.length→Tot 5051 [(deep:Int),enc kids,(kids.l.length:Int),(i:Int),l',c',k,enc s,n] is3:=by
    intro j
    induction j with
    | zero=>
      intro i l' c' hi;have c1: ¬(i:Int) < (kids.l.length:Int):=by omega
      obtain⟨b,hb,hR⟩:=aeQ s (aCK hs);refine Tot.of ?_;rw [aoP];simp only [abC,zz,c1,hR];rcases hb with rfl | rfl
      ·simp only [Int.reduceEq,if_true,if_false]
       repeat' first | exact .out Xa | exact .out ayM | refine .ite (fun _=>?_) (fun _=>?_)
      ·simp only [Int.reduceEq,if_true,if_false]
       repeat' first | exact .out Xa | exact .out ayM | refine .ite (fun _=>?_) (fun _=>?_)
    | succ j ih2=>
      intro i l' c' hi;have hil:i < kids.l.length:=by omega
      have c1:(i:Int) < (kids.l.length:Int):=by omega
      have c2: ¬((i:Int) < 0):=by omega
      have w:=bC (n:=i) (by omega);obtain⟨k',s',n',ks',he,_,h1,_,h2⟩:=DJ hk hil;obtain⟨ys,hR,a,b,c,rfl,hc⟩:=ih k' n' l' c' s' ks' h1 h2;refine Tot.of ?_;rw [aoP];simp only [abC,zz,c1,c2,aZ hil,he,zg,w0,w,hR];exact .ite (fun _=> .out Xa) fun _=> .jump (ih2 (i+1) _ _ (by omega))
   exact loop kids.l.length 0 _ _ (by omega)
theorem aeX (k n loc:Int) (s kids:D) (hs:Wd .str s) (hk:Wd (.sl 6) kids):Tot 800 [k,enc s,n,enc kids,loc] E5:=by obtain⟨ys,hR,a,b,c,rfl,hc⟩:=QH 20 1 (by omega) k n 1000 loc s kids hs hk;have hR':L 5050 [k,enc s,n,enc kids,1,1000,loc]=some [a,b,c]:=hR;refine Tot.of ?_;rw [aEv];simp only [aAM,zz,hR'];exact .ite (fun _=> .out zV) fun _=> .out zT
end Go.As.Try
end
section
namespace Go.As.Try
open Go hiding Stat Spec shape
open Go.As
set_option maxRecDepth 100000
def ayK (a b c:Int) (ys:List Int):Prop:= ∃i:Int,ys= [a,b,c,i]
def aBj (a b c:Int) (ys:List Int):Prop:= ∃i:Int,ys= [a,b,c,i]∧(i=0∨i=1)
theorem GN (kids loc:D) (nm' code:Int) (hk:Wd (.sl 6) kids): ∀(j i:Nat),i+j=kids.l.length→Tot 5401 [enc kids,(kids.l.length:Int),(i:Int),nm',enc loc,code] (ayK nm' (enc loc) code)
 | 0,i,hi=>by
   have c1: ¬(i:Int) < (kids.l.length:Int):=by omega
   refine Tot.of ?_;rw [aoL];simp only [aaY,zz,c1];exact .out ⟨_,rfl⟩
 | j+1,i,hi=>by
   have hlen:=hk.len;have hil:i < kids.l.length:=by omega
   have c1:(i:Int) < (kids.l.length:Int):=by omega
   have c2: ¬((i:Int) < 0):=by omega
   have w:=bC (n:=i) (by omega);obtain⟨k',s',n',ks',he,_,h1,_,h2⟩:=DJ hk hil;obtain⟨ys,hR,b,rfl,hb⟩:=aeX k' n' (loc.l.length:Int) s' ks' h1 h2;refine Tot.of ?_;rw [aoL];simp only [aaY,zz,c1,c2,aZ hil,he,zg,w,hR];exact .ite (fun _=> .out ⟨_,rfl⟩) fun _=> .jump (GN kids loc nm' code hk j (i+1) (by omega))
theorem agS (kids loc:D) (nm' code:Int) (hk:Wd (.sl 6) kids):Tot 5000 [enc kids,nm',enc loc,code] (aBj nm' (enc loc) code):=by
 have h0:Tot 5400 [enc kids,nm',enc loc,code] (ayK nm' (enc loc) code):=by refine Tot.of ?_;rw [azC];simp only [ajB,zz];exact .jump (GN kids loc nm' code hk kids.l.length 0 (by omega))
 obtain⟨ys,hR,i,rfl⟩:=h0;refine Tot.of ?_;rw [azN];simp only [ajJ,zz,hR];exact .ite (fun _=> .out ⟨_,rfl,.inl rfl⟩) fun _=> .out ⟨_,rfl,.inr rfl⟩
theorem Ur (o:Int):Tot 1200 [o] (fun ys=> ∃k,ys= [k]):=by
 refine Tot.of ?_;rw [aAe];simp only [ajY,zz]
 repeat' first | exact .out ⟨_,rfl⟩ | refine .ite (fun _=>?_) (fun _=>?_)
theorem uH (o:Int):Tot 1250 [o] E5:=by
 refine Tot.of ?_;rw [aAd];simp only [ajX,zz]
 repeat' first | exact .out zV | exact .out zT | refine .ite (fun _=>?_) (fun _=>?_)
theorem tV (o:Int):Tot 1300 [o] E5:=by
 refine Tot.of ?_;rw [aAc];simp only [ajW,zz]
 repeat' first | exact .out zV | exact .out zT | refine .ite (fun _=>?_) (fun _=>?_)
theorem XO (o:Int):Tot 1350 [o] E5:=by
 refine Tot.of ?_;rw [aAb];simp only [ajV,zz]
 repeat' first | exact .out zV | exact .out zT | refine .ite (fun _=>?_) (fun _=>?_)
end Go.As.Try
end
section
namespace Go.As.Try
open Go hiding Stat Spec shape
open Go.As
set_option maxRecDepth 100000
def E1:D:=.p (.i 1) (.p (.i 0) (.p (.i 0) (.p (.i 1) (.i 0))))
theorem Eb:Bs (.i 0):=⟨rfl,fun i h=>by simp [D.l] at h⟩
theorem Ea {b:Int} (h1:0≤b) (h2:b < 256):Bs (.p (.i b) (.i 0)):=⟨rfl,fun i h=>by
 simp only [D.l,List.length_cons,List.length_nil] at h;obtain rfl:i=0:=by omega
 exact⟨h1,h2⟩⟩
theorem iF (k n x5:Int) (s s':D) (hs:Bs s) (hs':Bs s'):Tot 1400 [k,enc s,n,enc s',x5] E5:=by
 obtain⟨b,hb,hR⟩:=nM s hs;obtain⟨b',hb',hR'⟩:=nM s' hs';obtain⟨ys,hC,c,rfl,hc⟩:=XO k;refine Tot.of ?_;rw [aAa];simp only [ajU,zz,hR,hR',hC]
 repeat' first | exact .out zV | exact .out zT | refine .ite (fun _=>?_) (fun _=>?_)
theorem awR:L 1150 [1,enc (.i 0),0,enc (.i 1)]=some [1]:=by rw [aQ,aAf];simp only [ajZ,zz,Ba,List.length_nil,Int.reduceLT,Int.reduceEq];rfl
theorem agT (a b:Int):L 5450 [enc (.i 1),a,b]=some [b]:=by rw [aQ,azB];simp only [ajA,zz,Ba,List.length_nil,fin];rw [aQ,azA];simp only [aiZ,zz];rfl
theorem DI:L 5250 [enc (dL [E1]),2,1]=some [2,enc (dL [E1])]:=by have h1:=awR;have h2:=agT 3 2;have w1:IntKind.i64.wrap (1+1)=2:=qE (by omega) (by omega);have w2:IntKind.i64.wrap (2+1)=3:=qE (by omega) (by omega);have w3:IntKind.i64.wrap (0+1)=1:=qE (by omega) (by omega);have ha:(dL [E1]).at 0=E1:=rfl;have g0:E1.hd 0= .i 1:=rfl;have g1:E1.hd 1= .i 0:=rfl;have g2:E1.hd 2= .i 0:=rfl;have g3:E1.hd 3= .i 1:=rfl;rw [aQ,azF];simp only [ajE,zz,aT,List.length_cons,List.length_nil,Nat.zero_add,fin];rw [aQ,aoO];simp only [abB,zz,aT,List.length_cons,List.length_nil,Nat.zero_add,ha,g0,g1,g2,g3,w1,w2,w3,h1,h2,Int.reduceLT,Int.reduceEq,fin,Int.natCast_one,Int.lt_irrefl];rw [aQ,aoO];simp only [abB,zz,Int.lt_irrefl];rfl
theorem aeS (k m:Int):L 5500 [enc (.i 1),k,m]=some [k,m,1]:=by rw [aQ,ayZ];simp only [aiX,zz,Ba,List.length_nil,fin];rw [aQ,ayY];simp only [aiW,zz];rfl
theorem aeR (a k m:Int):L 5600 [enc (.i 1),a,k,m]=some [a,k,m,1]:=by rw [aQ,ayX];simp only [aiV,zz,Ba,List.length_nil,fin];rw [aQ,ayW];simp only [aiU,zz];rfl
theorem aiJ (k m:Int):L 5150 [k,m]=some [k,m,1]:=by rw [aQ,azJ];simp only [ajG,zz,fin];rw [aQ,azI];rfl
theorem aiI (k m:Int):L 5200 [k,m]=some [1,k,m,1]:=by rw [aQ,azH];simp only [ajF,zz,fin];rw [aQ,azG];rfl
theorem KN (k m:Int):L 5100 [k,m]=some [m]:=by rw [aQ,azL];simp only [ajH,zz,fin];rw [aQ,azK];rfl
theorem oW (k m:Int):L 5300 [1,enc (dL [E1]),k,m]=some [enc (dL [E1]),k,m,1]:=by have h2:=aeS k m;have w3:IntKind.i64.wrap (0+1)=1:=qE (by omega) (by omega);have ha:(dL [E1]).at 0=E1:=rfl;have g0:E1.hd 0= .i 1:=rfl;have g1:E1.hd 1= .i 0:=rfl;have g3:E1.hd 3= .i 1:=rfl;rw [aQ,azE];simp only [ajD,zz,fin];rw [aQ,aoN];simp only [abA,zz,aT,List.length_cons,List.length_nil,Nat.zero_add,ha,g0,g1,g3,w3,h2,Int.reduceLT,Int.reduceEq,fin,Int.natCast_one,Int.lt_irrefl];rw [aQ,aoN];simp only [abA,zz,Int.lt_irrefl];rfl
theorem TJ (k m:Int):L 5350 [1,enc (dL [E1]),k,m]=some [enc (dL [E1]),1,k,m,1]:=by have h2:=aeR 1 k m;have w3:IntKind.i64.wrap (0+1)=1:=qE (by omega) (by omega);have ha:(dL [E1]).at 0=E1:=rfl;have g0:E1.hd 0= .i 1:=rfl;have g1:E1.hd 1= .i 0:=rfl;have g3:E1.hd 3= .i 1:=rfl;rw [aQ,azD];simp only [ajC,zz,fin];rw [aQ,aoM];simp only [aaZ,zz,aT,List.length_cons,List.length_nil,Nat.zero_add,ha,g0,g1,g3,w3,h2,Int.reduceLT,Int.reduceEq,fin,Int.natCast_one,Int.lt_irrefl];rw [aQ,aoM];simp only [aaZ,zz,Int.lt_irrefl];rfl
def Zj (ys:List Int):Prop:= ∃b l,ys=b :: l∧(b=0∨b=1)
theorem acR {l:List Int}:Zj (0 :: l):=⟨0,l,rfl,.inl rfl⟩
theorem acQ {l:List Int}:Zj (1 :: l):=⟨1,l,rfl,.inr rfl⟩
theorem Uj (a b c d e f g:Int):Tot 12400 [a,b,c,d,e,f,g] Zj:=by
 obtain⟨ys,h1,o,rfl,_⟩:=iF a b c _ _ (Ea (b:=97) (by omega) (by omega)) Eb;obtain⟨ys,h2,q,rfl,_⟩:=uH e;obtain⟨ys,h3,r,rfl,_⟩:=tV e;obtain⟨n,_,h4⟩:=nM _ Eb;refine Tot.of ?_;rw [apV];simp only [YE,zz,h1,h2,h3,h4,KN]
 repeat' first | exact .out acR | exact .out acQ | refine .ite (fun _=>?_) (fun _=>?_)
theorem Ui (a b c d e f g:Int):Tot 12500 [a,b,c,d,e,f,g] Zj:=by
 obtain⟨ys,h1,o,rfl,_⟩:=iF a b c _ _ (Ea (b:=97) (by omega) (by omega)) Eb;obtain⟨ys,h2,q,rfl,_⟩:=uH e;obtain⟨ys,h3,r,rfl,_⟩:=tV e;obtain⟨n,_,h4⟩:=nM _ Eb;refine Tot.of ?_;rw [apT];simp only [YC,zz,h1,h2,h3,h4,KN]
 repeat' first | exact .out acR | exact .out acQ | refine .ite (fun _=>?_) (fun _=>?_)
theorem alD (a b c d e f g h i:Int):Tot 12450 [a,b,c,d,e,f,g,h,i] Zj:=by
 obtain⟨ys,h0,o,rfl,_⟩:=iF 1 a b _ _ (Ea (b:=98) (by omega) (by omega)) Eb;obtain⟨ys,h1,o',rfl,_⟩:=iF c d e _ _ (Ea (b:=97) (by omega) (by omega)) (Ea (b:=98) (by omega) (by omega));obtain⟨ys,h2,q,rfl,_⟩:=uH g;obtain⟨ys,h3,r,rfl,_⟩:=tV g;obtain⟨n,_,h4⟩:=nM _ Eb;refine Tot.of ?_;rw [apU];simp only [YD,zz,h0,h1,h2,h3,h4,KN]
 repeat' first | exact .out acR | exact .out acQ | refine .ite (fun _=>?_) (fun _=>?_)
theorem alC (a b c d e f g h i:Int):Tot 12550 [a,b,c,d,e,f,g,h,i] Zj:=by
 obtain⟨ys,h0,o,rfl,_⟩:=iF 1 a b _ _ (Ea (b:=98) (by omega) (by omega)) Eb;obtain⟨ys,h1,o',rfl,_⟩:=iF c d e _ _ (Ea (b:=97) (by omega) (by omega)) (Ea (b:=98) (by omega) (by omega));obtain⟨ys,h2,q,rfl,_⟩:=uH g;obtain⟨ys,h3,r,rfl,_⟩:=tV g;obtain⟨n,_,h4⟩:=nM _ Eb;refine Tot.of ?_;rw [apS];simp only [YB,zz,h0,h1,h2,h3,h4,KN]
 repeat' first | exact .out acR | exact .out acQ | refine .ite (fun _=>?_) (fun _=>?_)
def amH (m k:Nat) (ys:List Int):Prop:=(∃l,ys=0 :: l)∨(m=1∧low ys 0=1∧low ys k=1∧low ys (k+1)=enc (dL [E1]))
theorem BL {m k:Nat} {l:List Int}:amH m k (0 :: l):=.inl ⟨l,rfl⟩
def xH (m:Nat):D:=dL (List.replicate m E1)
theorem yI (m:Nat):(xH m).l.length=m:=by unfold xH; rw [aT,List.length_replicate]
theorem BD (m:Nat) (hm:1≤m) (a b c d e f g:Int):Tot 12600 [a,b,c,d,e,f,enc (xH m),g] (amH m 9):=by
 obtain⟨ys,h1,o,rfl,_⟩:=iF a b c _ _ (Ea (b:=97) (by omega) (by omega)) Eb;obtain⟨ys,h2,q,rfl,hq⟩:=uH e;obtain⟨ys,h3,r,rfl,_⟩:=tV e;obtain⟨n,_,h4⟩:=nM _ Eb;refine Tot.of ?_;rw [apR];by_cases h:m=1
 ·subst h;have h5:=DI;simp only [TV,zz,h1,h2,h3,h4,xH,List.replicate,h5]
  repeat' first | exact .out BL | exact .out (.inr ⟨rfl,rfl,rfl,rfl⟩) | refine .ite (fun _=>?_) (fun _=>?_)
 ·have c1: ¬((m:Int)=q):=by rcases hq with rfl | rfl <;> omega
  simp only [TV,zz,h1,h2,h3,h4,yI,c1]
  repeat' first | exact .out BL | refine .ite (fun _=>?_) (fun _=>?_)
theorem BA (m:Nat) (hm:1≤m) (a b c d e f g:Int):Tot 12700 [a,b,c,d,e,f,enc (xH m),g] (amH m 9):=by
 obtain⟨ys,h1,o,rfl,_⟩:=iF a b c _ _ (Ea (b:=97) (by omega) (by omega)) Eb;obtain⟨ys,h2,q,rfl,hq⟩:=uH e;obtain⟨ys,h3,r,rfl,_⟩:=tV e;obtain⟨n,_,h4⟩:=nM _ Eb;refine Tot.of ?_;rw [apP];by_cases h:m=1
 ·subst h;have h5:=DI;simp only [TS,zz,h1,h2,h3,h4,xH,List.replicate,h5]
  repeat' first | exact .out BL | exact .out (.inr ⟨rfl,rfl,rfl,rfl⟩) | refine .ite (fun _=>?_) (fun _=>?_)
 ·have c1: ¬((m:Int)=q):=by rcases hq with rfl | rfl <;> omega
  simp only [TS,zz,h1,h2,h3,h4,yI,c1]
  repeat' first | exact .out BL | refine .ite (fun _=>?_) (fun _=>?_)
theorem alB (m:Nat) (hm:1≤m) (a b c d e f g h' i:Int):Tot 12650 [a,b,c,d,e,f,g,h',enc (xH m),i] (amH m 11):=by
 obtain⟨ys,h0,o,rfl,_⟩:=iF 1 a b _ _ (Ea (b:=98) (by omega) (by omega)) Eb;obtain⟨ys,h1,o',rfl,_⟩:=iF c d e _ _ (Ea (b:=97) (by omega) (by omega)) (Ea (b:=98) (by omega) (by omega));obtain⟨ys,h2,q,rfl,hq⟩:=uH g;obtain⟨ys,h3,r,rfl,_⟩:=tV g;obtain⟨n,_,h4⟩:=nM _ Eb;refine Tot.of ?_;rw [apQ];by_cases h:m=1
 ·subst h;have h5:=DI;simp only [TU,zz,h0,h1,h2,h3,h4,xH,List.replicate,h5]
  repeat' first | exact .out BL | exact .out (.inr ⟨rfl,rfl,rfl,rfl⟩) | refine .ite (fun _=>?_) (fun _=>?_)
 ·have c1: ¬((m:Int)=q):=by rcases hq with rfl | rfl <;> omega
  simp only [TU,zz,h0,h1,h2,h3,h4,yI,c1]
  repeat' first | exact .out BL | refine .ite (fun _=>?_) (fun _=>?_)
theorem alA (m:Nat) (hm:1≤m) (a b c d e f g h' i:Int):Tot 12750 [a,b,c,d,e,f,g,h',enc (xH m),i] (amH m 11):=by
 obtain⟨ys,h0,o,rfl,_⟩:=iF 1 a b _ _ (Ea (b:=98) (by omega) (by omega)) Eb;obtain⟨ys,h1,o',rfl,_⟩:=iF c d e _ _ (Ea (b:=97) (by omega) (by omega)) (Ea (b:=98) (by omega) (by omega));obtain⟨ys,h2,q,rfl,hq⟩:=uH g;obtain⟨ys,h3,r,rfl,_⟩:=tV g;obtain⟨n,_,h4⟩:=nM _ Eb;refine Tot.of ?_;rw [apO];by_cases h:m=1
 ·subst h;have h5:=DI;simp only [TQ,zz,h0,h1,h2,h3,h4,xH,List.replicate,h5]
  repeat' first | exact .out BL | exact .out (.inr ⟨rfl,rfl,rfl,rfl⟩) | refine .ite (fun _=>?_) (fun _=>?_)
 ·have c1: ¬((m:Int)=q):=by rcases hq with rfl | rfl <;> omega
  simp only [TQ,zz,h0,h1,h2,h3,h4,yI,c1]
  repeat' first | exact .out BL | refine .ite (fun _=>?_) (fun _=>?_)
end Go.As.Try
end
section
namespace Go.As.Try
open Go hiding Stat Spec shape
open Go.As
set_option maxRecDepth 100000
def isD (a b:Int) (ys:List Int):Prop:= ∃c:Int,ys= [c]∧(c=0∨c=1)∧(c=1→a= -1∨b≠0)
theorem gB {a b:Int}:isD a b [0]:=⟨0,rfl,.inl rfl,fun h=>absurd h (by omega)⟩
theorem oP {a b:Int} (h:a= -1∨b≠0):isD a b [1]:=⟨1,rfl,.inr rfl,fun _=>h⟩
theorem Tot.mono {j:Nat} {xs:List Int} {p q:List Int→Prop} (h:Tot j xs p) (f: ∀ys,p ys→q ys):Tot j xs q:=by obtain⟨ys,a,b⟩:=h;exact⟨ys,a,f ys b⟩
theorem awE (x0 x2 x3 x4 x5 x6 x7 x8:Int):Tot 951 [x0,0,x2,x3,x4,x5,x6,x7,x8] (isD x5 0):=by
 obtain⟨ys,a1,b1,l1,rfl,g1⟩:=Uj x0 1 0 0 x3 0 0;obtain⟨ys,a2,b2,l2,rfl,g2⟩:=Uj x0 0 0 0 x3 0 0;obtain⟨ys,a3,b3,l3,rfl,g3⟩:=alD 0 0 x0 0 0 0 x3 0 0;obtain⟨ys,a4,b4,l4,rfl,g4⟩:=Ui x0 1 0 0 x3 0 0;obtain⟨ys,a5,b5,l5,rfl,g5⟩:=Ui x0 0 0 0 x3 0 0;obtain⟨ys,a6,b6,l6,rfl,g6⟩:=alC 0 0 x0 0 0 0 x3 0 0;obtain⟨ys,a7,k,rfl⟩:=Ur x3;refine Tot.of ?_;rw [aCg];simp only [asG,zz,Int.lt_irrefl,a1,a2,a3,a4,a5,a6,a7,aiJ,aiI]
 repeat' first | exact .out gB | exact .out (oP (by omega)) | refine .ite (fun _=>?_) (fun _=>?_) | (exfalso; omega)
theorem awD (x0 x2 x3 x4 x5 x6 x7 x8:Int):Tot 952 [x0,0,x2,x3,x4,x5,x6,x7,x8] (isD x5 1):=by
 obtain⟨ys,a1,b1,l1,rfl,g1⟩:=Uj x0 1 0 0 x3 0 0;obtain⟨ys,a2,b2,l2,rfl,g2⟩:=Uj x0 0 0 0 x3 0 0;obtain⟨ys,a3,b3,l3,rfl,g3⟩:=alD 0 0 x0 0 0 0 x3 0 0;obtain⟨ys,a4,b4,l4,rfl,g4⟩:=Ui x0 1 0 0 x3 0 0;obtain⟨ys,a5,b5,l5,rfl,g5⟩:=Ui x0 0 0 0 x3 0 0;obtain⟨ys,a6,b6,l6,rfl,g6⟩:=alC 0 0 x0 0 0 0 x3 0 0;obtain⟨ys,a7,k,rfl⟩:=Ur x3;refine Tot.of ?_;rw [aCf];simp only [asF,zz,Int.lt_irrefl,a1,a2,a3,a4,a5,a6,a7,aiJ,aiI]
 repeat' first | exact .out gB | exact .out (oP (by omega)) | refine .ite (fun _=>?_) (fun _=>?_) | (exfalso; omega)
theorem XJ (m:Nat) (hm:1≤m) (x0 x3 x4 x5 x6 x7 x8 x9:Int):Tot 953 [x0,(m:Int),(m:Int),x3,x4,x5,x6,x7,x8,x9,enc (xH m)] (isD x6 0):=by
 obtain⟨ys,a7,k,rfl⟩:=Ur x4;by_cases hn:x6= -1
 ·by_cases h3:x0=3
  ·subst h3;obtain⟨ys,hR,hC⟩:=BD m hm 3 1 0 0 x4 0 0;refine Tot.of ?_;rw [J3];rcases hC with ⟨l,rfl⟩ | ⟨rfl,q1,q2,q3⟩
   ·simp only [vU,zz,Int.lt_irrefl,hn,hR,Int.reduceEq];exact .out gB
   ·simp only [vU,zz,Int.lt_irrefl,hn,hR,q1,q2,q3,a7,oW,Int.reduceEq,Int.natCast_one]
    repeat' first | exact .out gB | exact .out (oP (by omega)) | refine .ite (fun _=>?_) (fun _=>?_) | (exfalso; omega)
  by_cases h8:x0=8
  ·subst h8;obtain⟨ys,hR,hC⟩:=BD m hm 8 1 0 0 x4 0 0;refine Tot.of ?_;rw [J3];rcases hC with ⟨l,rfl⟩ | ⟨rfl,q1,q2,q3⟩
   ·simp only [vU,zz,Int.lt_irrefl,hn,hR,Int.reduceEq];exact .out gB
   ·simp only [vU,zz,Int.lt_irrefl,hn,hR,q1,q2,q3,a7,oW,Int.reduceEq,Int.natCast_one]
    repeat' first | exact .out gB | exact .out (oP (by omega)) | refine .ite (fun _=>?_) (fun _=>?_) | (exfalso; omega)
  by_cases h5:x0=5
  ·subst h5;obtain⟨ys,hR,hC⟩:=BD m hm 5 1 0 0 x4 0 0;refine Tot.of ?_;rw [J3];rcases hC with ⟨l,rfl⟩ | ⟨rfl,q1,q2,q3⟩
   ·simp only [vU,zz,Int.lt_irrefl,hn,hR,Int.reduceEq];exact .out gB
   ·simp only [vU,zz,Int.lt_irrefl,hn,hR,q1,q2,q3,a7,oW,Int.reduceEq,Int.natCast_one]
    repeat' first | exact .out gB | exact .out (oP (by omega)) | refine .ite (fun _=>?_) (fun _=>?_) | (exfalso; omega)
  by_cases h4:x0=4
  ·subst h4;obtain⟨ys,hR,hC⟩:=alB m hm 0 0 4 0 0 0 x4 0 0;refine Tot.of ?_;rw [J3];rcases hC with ⟨l,rfl⟩ | ⟨rfl,q1,q2,q3⟩
   ·simp only [vU,zz,Int.lt_irrefl,hn,hR,Int.reduceEq];exact .out gB
   ·simp only [vU,zz,Int.lt_irrefl,hn,hR,q1,q2,q3,a7,TJ,Int.reduceEq,Int.natCast_one]
    repeat' first | exact .out gB | exact .out (oP (by omega)) | refine .ite (fun _=>?_) (fun _=>?_) | (exfalso; omega)
  obtain⟨ys,hR,hC⟩:=BD m hm x0 0 0 0 x4 0 0;refine Tot.of ?_;rw [J3];rcases hC with ⟨l,rfl⟩ | ⟨rfl,q1,q2,q3⟩
  ·simp only [vU,zz,Int.lt_irrefl,hn,h3,h8,h5,h4,hR,Int.reduceEq];exact .out gB
  ·simp only [vU,zz,Int.lt_irrefl,hn,h3,h8,h5,h4,hR,q1,q2,q3,a7,oW,Int.reduceEq,Int.natCast_one]
   repeat' first | exact .out gB | exact .out (oP (by omega)) | refine .ite (fun _=>?_) (fun _=>?_) | (exfalso; omega)
 ·by_cases h3:x0=3
  ·subst h3;obtain⟨ys,hR,hC⟩:=BA m hm 3 1 0 0 x4 0 0;refine Tot.of ?_;rw [J3];rcases hC with ⟨l,rfl⟩ | ⟨rfl,q1,q2,q3⟩
   ·simp only [vU,zz,Int.lt_irrefl,hn,hR,Int.reduceEq];exact .out gB
   ·simp only [vU,zz,Int.lt_irrefl,hn,hR,q1,q2,q3,a7,oW,Int.reduceEq,Int.natCast_one]
    repeat' first | exact .out gB | exact .out (oP (by omega)) | refine .ite (fun _=>?_) (fun _=>?_) | (exfalso; omega)
  by_cases h8:x0=8
  ·subst h8;obtain⟨ys,hR,hC⟩:=BA m hm 8 1 0 0 x4 0 0;refine Tot.of ?_;rw [J3];rcases hC with ⟨l,rfl⟩ | ⟨rfl,q1,q2,q3⟩
   ·simp only [vU,zz,Int.lt_irrefl,hn,hR,Int.reduceEq];exact .out gB
   ·simp only [vU,zz,Int.lt_irrefl,hn,hR,q1,q2,q3,a7,oW,Int.reduceEq,Int.natCast_one]
    repeat' first | exact .out gB | exact .out (oP (by omega)) | refine .ite (fun _=>?_) (fun _=>?_) | (exfalso; omega)
  by_cases h5:x0=5
  ·subst h5;obtain⟨ys,hR,hC⟩:=BA m hm 5 1 0 0 x4 0 0;refine Tot.of ?_;rw [J3];rcases hC with ⟨l,rfl⟩ | ⟨rfl,q1,q2,q3⟩
   ·simp only [vU,zz,Int.lt_irrefl,hn,hR,Int.reduceEq];exact .out gB
   ·simp only [vU,zz,Int.lt_irrefl,hn,hR,q1,q2,q3,a7,oW,Int.reduceEq,Int.natCast_one]
    repeat' first | exact .out gB | exact .out (oP (by omega)) | refine .ite (fun _=>?_) (fun _=>?_) | (exfalso; omega)
  by_cases h4:x0=4
  ·subst h4;obtain⟨ys,hR,hC⟩:=alA m hm 0 0 4 0 0 0 x4 0 0;refine Tot.of ?_;rw [J3];rcases hC with ⟨l,rfl⟩ | ⟨rfl,q1,q2,q3⟩
   ·simp only [vU,zz,Int.lt_irrefl,hn,hR,Int.reduceEq];exact .out gB
   ·simp only [vU,zz,Int.lt_irrefl,hn,hR,q1,q2,q3,a7,TJ,Int.reduceEq,Int.natCast_one]
    repeat' first | exact .out gB | exact .out (oP (by omega)) | refine .ite (fun _=>?_) (fun _=>?_) | (exfalso; omega)
  obtain⟨ys,hR,hC⟩:=BA m hm x0 0 0 0 x4 0 0;refine Tot.of ?_;rw [J3];rcases hC with ⟨l,rfl⟩ | ⟨rfl,q1,q2,q3⟩
  ·simp only [vU,zz,Int.lt_irrefl,hn,h3,h8,h5,h4,hR,Int.reduceEq];exact .out gB
  ·simp only [vU,zz,Int.lt_irrefl,hn,h3,h8,h5,h4,hR,q1,q2,q3,a7,oW,Int.reduceEq,Int.natCast_one]
   repeat' first | exact .out gB | exact .out (oP (by omega)) | refine .ite (fun _=>?_) (fun _=>?_) | (exfalso; omega)
theorem adP (M:Nat) (hM:M≤2513169434915) (x0 x3 x4 x5 x6 x7 x8 x9:Int): ∀(j m:Nat),m+j=M→1≤m→Tot 953 [x0,(M:Int),(m:Int),x3,x4,x5,x6,x7,x8,x9,enc (xH m)] (isD x6 0)
 | 0,m,h1,h2=>by
   obtain rfl:M=m:=by omega
   exact XJ M h2 x0 x3 x4 x5 x6 x7 x8 x9
 | j+1,m,h1,h2=>by
   have ih:=adP M hM x0 x3 x4 x5 x6 x7 x8 x9 j (m+1) (by omega) (by omega);have c1:(m:Int) < (M:Int):=by omega
   have c2:((m:Nat):Int) < 2513169434915:=by omega
   have w:=bC (n:=m) (by omega)
   have hr:xH (m+1)=dL ((xH m).l++ [E1]):=by unfold xH;rw [aT,List.replicate_succ']
   rw [hr] at ih;refine Tot.of ?_;rw [J3];simp only [vU,zz,c1,c2,yI,w];exact .jump ih
theorem XI (m:Nat) (hm:1≤m) (x0 x3 x4 x5 x6 x7 x8 x9:Int):Tot 954 [x0,(m:Int),(m:Int),x3,x4,x5,x6,x7,x8,x9,enc (xH m)] (isD x6 1):=by
 obtain⟨ys,a7,k,rfl⟩:=Ur x4;by_cases hn:x6= -1
 ·by_cases h3:x0=3
  ·subst h3;obtain⟨ys,hR,hC⟩:=BD m hm 3 1 0 0 x4 0 0;refine Tot.of ?_;rw [JZ];rcases hC with ⟨l,rfl⟩ | ⟨rfl,q1,q2,q3⟩
   ·simp only [vT,zz,Int.lt_irrefl,hn,hR,Int.reduceEq];exact .out gB
   ·simp only [vT,zz,Int.lt_irrefl,hn,hR,q1,q2,q3,a7,oW,Int.reduceEq,Int.natCast_one]
    repeat' first | exact .out gB | exact .out (oP (by omega)) | refine .ite (fun _=>?_) (fun _=>?_) | (exfalso; omega)
  by_cases h8:x0=8
  ·subst h8;obtain⟨ys,hR,hC⟩:=BD m hm 8 1 0 0 x4 0 0;refine Tot.of ?_;rw [JZ];rcases hC with ⟨l,rfl⟩ | ⟨rfl,q1,q2,q3⟩
   ·simp only [vT,zz,Int.lt_irrefl,hn,hR,Int.reduceEq];exact .out gB
   ·simp only [vT,zz,Int.lt_irrefl,hn,hR,q1,q2,q3,a7,oW,Int.reduceEq,Int.natCast_one]
    repeat' first | exact .out gB | exact .out (oP (by omega)) | refine .ite (fun _=>?_) (fun _=>?_) | (exfalso; omega)
  by_cases h5:x0=5
  ·subst h5;obtain⟨ys,hR,hC⟩:=BD m hm 5 1 0 0 x4 0 0;refine Tot.of ?_;rw [JZ];rcases hC with ⟨l,rfl⟩ | ⟨rfl,q1,q2,q3⟩
   ·simp only [vT,zz,Int.lt_irrefl,hn,hR,Int.reduceEq];exact .out gB
   ·simp only [vT,zz,Int.lt_irrefl,hn,hR,q1,q2,q3,a7,oW,Int.reduceEq,Int.natCast_one]
    repeat' first | exact .out gB | exact .out (oP (by omega)) | refine .ite (fun _=>?_) (fun _=>?_) | (exfalso; omega)
  by_cases h4:x0=4
  ·subst h4;obtain⟨ys,hR,hC⟩:=alB m hm 0 0 4 0 0 0 x4 0 0;refine Tot.of ?_;rw [JZ];rcases hC with ⟨l,rfl⟩ | ⟨rfl,q1,q2,q3⟩
   ·simp only [vT,zz,Int.lt_irrefl,hn,hR,Int.reduceEq];exact .out gB
   ·simp only [vT,zz,Int.lt_irrefl,hn,hR,q1,q2,q3,a7,TJ,Int.reduceEq,Int.natCast_one]
    repeat' first | exact .out gB | exact .out (oP (by omega)) | refine .ite (fun _=>?_) (fun _=>?_) | (exfalso; omega)
  obtain⟨ys,hR,hC⟩:=BD m hm x0 0 0 0 x4 0 0;refine Tot.of ?_;rw [JZ];rcases hC with ⟨l,rfl⟩ | ⟨rfl,q1,q2,q3⟩
  ·simp only [vT,zz,Int.lt_irrefl,hn,h3,h8,h5,h4,hR,Int.reduceEq];exact .out gB
  ·simp only [vT,zz,Int.lt_irrefl,hn,h3,h8,h5,h4,hR,q1,q2,q3,a7,oW,Int.reduceEq,Int.natCast_one]
   repeat' first | exact .out gB | exact .out (oP (by omega)) | refine .ite (fun _=>?_) (fun _=>?_) | (exfalso; omega)
 ·by_cases h3:x0=3
  ·subst h3;obtain⟨ys,hR,hC⟩:=BA m hm 3 1 0 0 x4 0 0;refine Tot.of ?_;rw [JZ];rcases hC with ⟨l,rfl⟩ | ⟨rfl,q1,q2,q3⟩
   ·simp only [vT,zz,Int.lt_irrefl,hn,hR,Int.reduceEq];exact .out gB
   ·simp only [vT,zz,Int.lt_irrefl,hn,hR,q1,q2,q3,a7,oW,Int.reduceEq,Int.natCast_one]
    repeat' first | exact .out gB | exact .out (oP (by omega)) | refine .ite (fun _=>?_) (fun _=>?_) | (exfalso; omega)
  by_cases h8:x0=8
  ·subst h8;obtain⟨ys,hR,hC⟩:=BA m hm 8 1 0 0 x4 0 0;refine Tot.of ?_;rw [JZ];rcases hC with ⟨l,rfl⟩ | ⟨rfl,q1,q2,q3⟩
   ·simp only [vT,zz,Int.lt_irrefl,hn,hR,Int.reduceEq];exact .out gB
   ·simp only [vT,zz,Int.lt_irrefl,hn,hR,q1,q2,q3,a7,oW,Int.reduceEq,Int.natCast_one]
    repeat' first | exact .out gB | exact .out (oP (by omega)) | refine .ite (fun _=>?_) (fun _=>?_) | (exfalso; omega)
  by_cases h5:x0=5
  ·subst h5;obtain⟨ys,hR,hC⟩:=BA m hm 5 1 0 0 x4 0 0;refine Tot.of ?_;rw [JZ];rcases hC with ⟨l,rfl⟩ | ⟨rfl,q1,q2,q3⟩
   ·simp only [vT,zz,Int.lt_irrefl,hn,hR,Int.reduceEq];exact .out gB
   ·simp only [vT,zz,Int.lt_irrefl,hn,hR,q1,q2,q3,a7,oW,Int.reduceEq,Int.natCast_one]
    repeat' first | exact .out gB | exact .out (oP (by omega)) | refine .ite (fun _=>?_) (fun _=>?_) | (exfalso; omega)
  by_cases h4:x0=4
  ·subst h4;obtain⟨ys,hR,hC⟩:=alA m hm 0 0 4 0 0 0 x4 0 0;refine Tot.of ?_;rw [JZ];rcases hC with ⟨l,rfl⟩ | ⟨rfl,q1,q2,q3⟩
   ·simp only [vT,zz,Int.lt_irrefl,hn,hR,Int.reduceEq];exact .out gB
   ·simp only [vT,zz,Int.lt_irrefl,hn,hR,q1,q2,q3,a7,TJ,Int.reduceEq,Int.natCast_one]
    repeat' first | exact .out gB | exact .out (oP (by omega)) | refine .ite (fun _=>?_) (fun _=>?_) | (exfalso; omega)
  obtain⟨ys,hR,hC⟩:=BA m hm x0 0 0 0 x4 0 0;refine Tot.of ?_;rw [JZ];rcases hC with ⟨l,rfl⟩ | ⟨rfl,q1,q2,q3⟩
  ·simp only [vT,zz,Int.lt_irrefl,hn,h3,h8,h5,h4,hR,Int.reduceEq];exact .out gB
  ·simp only [vT,zz,Int.lt_irrefl,hn,h3,h8,h5,h4,hR,q1,q2,q3,a7,oW,Int.reduceEq,Int.natCast_one]
   repeat' first | exact .out gB | exact .out (oP (by omega)) | refine .ite (fun _=>?_) (fun _=>?_) | (exfalso; omega)
theorem adO (M:Nat) (hM:M≤2513169434915) (x0 x3 x4 x5 x6 x7 x8 x9:Int): ∀(j m:Nat),m+j=M→1≤m→Tot 954 [x0,(M:Int),(m:Int),x3,x4,x5,x6,x7,x8,x9,enc (xH m)] (isD x6 1)
 | 0,m,h1,h2=>by
   obtain rfl:M=m:=by omega
   exact XI M h2 x0 x3 x4 x5 x6 x7 x8 x9
 | j+1,m,h1,h2=>by
   have ih:=adO M hM x0 x3 x4 x5 x6 x7 x8 x9 j (m+1) (by omega) (by omega);have c1:(m:Int) < (M:Int):=by omega
   have c2:((m:Nat):Int) < 2513169434915:=by omega
   have w:=bC (n:=m) (by omega)
   have hr:xH (m+1)=dL ((xH m).l++ [E1]):=by unfold xH;rw [aT,List.replicate_succ']
   rw [hr] at ih;refine Tot.of ?_;rw [JZ];simp only [vT,zz,c1,c2,yI,w];exact .jump ih
theorem XH (x0 x1 x2 x3 x4 x5 x6 x8:Int) (d:D) (hd:d.l.length≤2513169434915):Tot 950 [x0,x1,x2,x3,x4,x5,x6,enc d,x8] (isD x4 x8):=by
 have key: ∀(t t2:Nat) (b:Int),(t=951∧t2=953∧b=0)∨(t=952∧t2=954∧b=1)→Tot t [x0,(d.l.length:Int),x1,x2,x3,x4,x5,x6,enc d] (isD x4 b):=by
  intro t t2 b ht;by_cases h0:d.l.length=0
  ·rw [h0];rcases ht with ⟨rfl,rfl,rfl⟩ | ⟨rfl,rfl,rfl⟩
   ·exact awE x0 x1 x2 x3 x4 x5 x6 (enc d)
   ·exact awD x0 x1 x2 x3 x4 x5 x6 (enc d)
  ·have c1:(0:Int) < (d.l.length:Int):=by omega
   have hr:enc (xH 1)=enc (dL ([]++ [E1])):=rfl;rcases ht with ⟨rfl,rfl,rfl⟩ | ⟨rfl,rfl,rfl⟩
   ·have:=adP d.l.length hd x0 x1 x2 x3 x4 x5 x6 (enc d) (d.l.length - 1) 1 (by omega) (by omega);rw [hr] at this;refine Tot.of ?_;rw [aCg];simp only [asG,zz,c1,Ba];exact .jump this
   ·have:=adO d.l.length hd x0 x1 x2 x3 x4 x5 x6 (enc d) (d.l.length - 1) 1 (by omega) (by omega);rw [hr] at this;refine Tot.of ?_;rw [aCf];simp only [asF,zz,c1,Ba];exact .jump this
 refine Tot.of ?_;rw [aEg];simp only [aAJ,zz];exact .ite (fun h=> .jump ((key 951 953 0 (.inl ⟨rfl,rfl,rfl⟩)).mono fun ys ⟨c,a,b,e⟩=> ⟨c,a,b,fun q=>by have:=e q; omega⟩)) fun h=> .jump ((key 952 954 1 (.inr ⟨rfl,rfl,rfl⟩)).mono fun ys ⟨c,a,b,e⟩=> ⟨c,a,b,fun _=> .inr h⟩)
end Go.As.Try
end
