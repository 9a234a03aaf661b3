/-
  Policies: the hints, the evaluator, its soundness.
-/
import Derived.Test.YtjnomgdildcbhaaGreatDoorAbFix
import Derived.Test.YtjnomgdildcbhaaGreatDoorProg
import Derived.KernelRfl
import Derived.Lib.Bytealg
import Derived.Lib.Walk
set_option linter.all false
noncomputable section
set_option maxRecDepth 100000
set_option maxHeartbeats 1000000
namespace Go.Ab.Pn
open Go.Ab Go.Proofs
def YR(f r:Nat):List Nat:=
 match f with
 | 5=>if r=4 then [1,2,5] else []
 | 10=>if r=4 then [1,5] else if r=9 then [1,5,6] else []
 | 12=>if r=11 then [4,5,6,7,8,9,51,52,53] else if r=17 then [4,5,6,7,8,9,77,78,79] else if r=22 then [4,5,6,7,8,9,15,16,18,77,78,79,95,96,97] else if r=34 then [4,5,8,157,158,159] else []
 | 13=>if r=9 then [1,2,4,6,8,9,10] else if r=14 then [1,2,4,6,8,9,14] else if r=23 then [4,9,18] else []
 | 32=>if r=4 then [1,3] else if r=10 then [1,5] else if r=15 then [1,6] else []
 | 39=>if r=8 then [0,4,6,35,36,37] else []
 | 41=>if r=6 then [1,3,4,5] else if r=12 then [1,3,4,5,7,8,9] else []
 | 43=>if r=6 then [0,6,7,8,9,10] else []
 | 44=>if r=4 then [0,1,5] else []
 | 45=>if r=4 then [0,1,5] else []
 | 46=>if r=4 then [2,3,5] else if r=10 then [2,3,5,6,7,8] else []
 | 47=>if r=5 then [6,24,25,26] else []
 | 50=>if r=20 then [7,8,9,10,12] else if r=25 then [3,5,7,9,10,127,128,129] else []
 | 51=>if r=12 then [1,4,61,62,63] else if r=20 then [1,7,82,83,84] else if r=26 then [7,95,96,97] else []
 | 54=>if r=2 then [1,2,6] else []
 | 55=>if r=2 then [0,1,4,6] else []
 | 56=>if r=2 then [1,2,6] else []
 | 80=>if r=5 then [2,3,26,27,28] else []
 | 85=>if r=6 then [1,2,4,6,28,29,30] else if r=13 then [2,4,6,41,42,43] else if r=20 then [4,6,62,63,64] else []
 | 86=>if r=2 then [2,3,4,5,15,16,17] else []
 | 89=>if r=5 then [0,4,5,6,21,22,23] else []
 | 91=>if r=5 then [1,2,7] else if r=12 then [1,2,11,12] else []
 | 92=>if r=4 then [0,3,5,6] else []
 | 93=>if r=21 then [0,2,6,7,8,9] else if r=28 then [0,2,6,7,8,10] else []
 | 94=>if r=5 then [1,3,4] else if r=9 then [1,3,5] else if r=23 then [1,7] else if r=26 then [1,7,8] else if r=31 then [1,9] else if r=34 then [1,9,10] else if r=39 then [1,11] else if r=44 then [1,12] else []
 | 96=>if r=5 then [1,2,6] else if r=11 then [1,2,8] else if r=14 then [1,2,8,9] else if r=19 then [1,2,10] else []
 | 101=>if r=5 then [2,28,29,30] else []
 | 106=>if r=3 then [0,5,15,16,17] else if r=26 then [0,10,11,69,70,71] else []
 | 110=>if r=3 then [1,3,32,33,34] else if r=8 then [3,51,52,53] else []
 | 112=>if r=3 then [3,7,8,9] else []
 | 113=>if r=3 then [3,7,8,9] else []
 | 117=>if r=4 then [3,17,18,19] else []
 | 118=>if r=2 then [0,3,7,8] else []
 | 128=>if r=10 then [2,3,9,10,11] else []
 | 135=>if r=11 then [4,60,61,62] else []
 | 138=>if r=7 then [3,23,24,25] else []
 | 139=>if r=2 then [1,4,8,9,10] else []
 | 143=>if r=4 then [0,1,4,24,25,26] else if r=15 then [4,10,11,63,64,65] else if r=20 then [4,10,11,14,15,63,64,65,82,83,84] else if r=24 then [4,10,11,14,15,17,18,63,64,65,82,83,84,96,97] else []
 | 144=>if r=4 then [1,2,3,8,9,10] else if r=16 then [1,2,3,8,14] else []
 | 150=>if r=3 then [0,1,4,5,6] else if r=19 then [0,4,5,7,8,9] else []
 | 151=>if r=2 then [0,3] else []
 | 152=>if r=2 then [0,3] else []
 | 153=>if r=14 then [0,2,8,10] else []
 | 154=>if r=2 then [1,2,5] else []
 | 155=>if r=6 then [1,3] else []
 | 156=>if r=2 then [0,3,5] else []
 | 158=>if r=4 then [2,3,5] else []
 | 161=>if r=4 then [0,1,4,6] else if r=14 then [1,4,9,10,11] else if r=19 then [1,4,9,10,11,12,13] else if r=24 then [1,4,9,10,11,12,13,14,15,16] else []
 | 162=>if r=7 then [1,2,6,7,8,27,28,29] else []
 | 170=>if r=2 then [0,5,6] else []
 | 171=>if r=2 then [0,5,6] else []
 | 172=>if r=11 then [1,5,10,47,48,49] else []
 | 174=>if r=2 then [0,1,7,8] else []
 | 181=>if r=2 then [0,1,7,8] else []
 | 203=>if r=3 then [0,3,4] else []
 | 206=>if r=2 then [0,3] else []
 | 207=>if r=4 then [0,3] else if r=9 then [0,3,4] else []
 | 210=>if r=2 then [0,7,8,9] else []
 | 230=>if r=1 then [0,1,4] else []
 | 231=>if r=11 then [0,1,3,4,10,11,12,13,14,15,16] else if r=18 then [0,1,3,4,10,11,12,13,17] else []
 | 233=>if r=2 then [0,1,7,8] else []
 | 236=>if r=5 then [3,15,16,17] else []
 | 237=>if r=4 then [0,1,5] else []
 | 238=>if r=2 then [0,1,5] else []
 | 241=>if r=3 then [0,3,4] else []
 | 242=>if r=2 then [0,3] else []
 | 255=>if r=2 then [0,1,7,8] else []
 | 256=>if r=4 then [0,1,12,13] else []
 | 277=>if r=4 then [1,5,16,17,18] else []
 | 278=>if r=5 then [1,5,6,18,19,20] else []
 |_=>[]
def YS(f r:Nat):List (Nat×List Nat×List Nat):=
 match f with
 | 5=>if r=10 then [(0,[],[]),(1,[0],[]),(2,[0,1],[]),(3,[0,1],[]),(5,[0,1],[]),(6,[0,1],[]),(4,.range 4,[5]),(7,.range 7,[]),(8,.range 8,[]),(9,.range 9,[]),(10,.range 10,[]),(11,.range 11,[]),(12,.range 11,[]),(13,.range 13,[]),(14,.range 14,[]),(15,.range 15,[]),(16,.range 16,[]),(17,.range 16,[]),(18,.range 18,[]),(19,.range 19,[]),(20,.range 20,[])] else []
 | 12=>if r=3 then [(0,[],[]),(1,[],[]),(2,[0],[1]),(3,[0,1,2],[])] else if r=14 then [(0,[],[]),(1,[],[]),(2,[1],[]),(3,[1,2],[]),(4,[1,2,3],[]),(5,[1,2,3,4],[]),(6,[],[]),(7,[6],[]),(8,[1,2,3,4,5,6,7],[]),(9,.range 9,[]),(10,.range 10,[]),(11,.range 11,[]),(12,.range 12,[])] else if r=26 then [(0,[],[]),(1,[0],[]),(2,[0,1],[]),(3,[0,1,2],[]),(4,[],[]),(5,[],[]),(6,.range 6,[])] else if r=27 then [(0,[],[]),(1,[],[]),(2,[1],[]),(3,[1,2],[]),(4,[1,2,3],[]),(5,[1,2,3,4],[]),(6,[],[]),(7,[6],[]),(8,[1,2,3,4,5,6,7],[]),(9,.range 9,[]),(10,.range 10,[]),(11,.range 11,[]),(12,.range 12,[])] else []
 | 13=>if r=7 then [(0,[],[]),(1,[],[]),(2,[],[]),(3,[2],[0]),(4,.range 4,[]),(5,.range 5,[]),(6,.range 6,[])] else if r=11 then [(0,[],[]),(1,[],[]),(2,[],[]),(3,[2],[]),(4,[],[]),(5,[2,3,4],[]),(6,[2,3,4,5],[]),(7,.range 7,[]),(8,.range 8,[]),(9,.range 9,[]),(10,.range 9,[]),(11,.range 9,[]),(12,[],[0,3,6]),(13,[],[0,3,6]),(14,[0,1,2,3,4,5,6,7,8,9,12,13],[]),(15,[0,1,2,3,4,5,6,7,8,9,10,12,13,14],[]),(16,.range 16,[])] else if r=12 then [(0,[],[]),(1,[],[]),(2,[1],[]),(3,[1,2],[]),(4,[1,2,3],[]),(5,[1,2,3,4],[]),(6,[],[]),(7,[6],[]),(8,[1,2,3,4,5,6,7],[]),(9,.range 9,[]),(10,.range 10,[]),(11,.range 11,[]),(12,.range 12,[])] else if r=16 then [(0,[],[]),(1,[],[]),(2,[],[]),(3,[2],[]),(4,[2,3],[]),(5,[2,3,4],[]),(6,[],[]),(7,[2,3,4,5,6],[]),(8,[2,3,4,5,6,7],[]),(9,.range 9,[]),(10,.range 10,[]),(11,.range 11,[]),(12,.range 11,[]),(13,.range 11,[]),(14,[],[0,5,8]),(15,[],[0,5,8]),(16,[0,1,2,3,4,5,6,7,8,9,10,11,14,15],[]),(17,[0,1,2,3,4,5,6,7,8,9,10,11,12,14,15,16],[]),(18,.range 18,[])] else if r=17 then [(0,[],[]),(1,[],[]),(2,[1],[]),(3,[1,2],[]),(4,[1,2,3],[]),(5,[1,2,3,4],[]),(6,[],[]),(7,[6],[]),(8,[1,2,3,4,5,6,7],[]),(9,.range 9,[]),(10,.range 10,[]),(11,.range 11,[]),(12,.range 12,[])] else if r=25 then [(0,[],[]),(1,[0],[]),(2,[0,1],[]),(3,[0,1,2],[]),(4,.range 4,[]),(5,[],[]),(6,.range 6,[]),(7,.range 7,[]),(8,.range 8,[]),(9,[],[]),(10,[9],[]),(11,[9,10],[]),(12,[9,10,11],[]),(13,[9,10,11,12],[]),(14,[],[]),(15,[9,10,11,12,13,14],[]),(16,[9,10,11,12,13,14,15],[]),(17,[9,10,11,12,13,14,15,16],[]),(18,.range 18,[]),(19,.range 19,[])] else []
 | 15=>if r=5 then [(0,[],[]),(1,[0],[]),(3,[],[]),(4,[3],[]),(2,[0,1],[4]),(6,[0,1,2],[]),(5,.range 5,[]),(7,.range 7,[]),(8,.range 8,[]),(9,.range 9,[])] else []
 | 17=>if r=10 then [(0,[],[]),(1,[],[]),(2,[1],[]),(3,[0,1,2],[]),(4,[],[]),(5,[4],[]),(6,[],[]),(7,[4,5,6],[]),(8,[4,5,6,7],[]),(9,.range 4,[5,8]),(10,.range 10,[]),(11,.range 11,[])] else []
 | 37=>if r=4 then [(0,[],[]),(1,[],[]),(2,[0],[1]),(3,[0,1,2],[])] else []
 | 38=>if r=8 then [(0,[],[]),(1,[],[]),(2,[0],[1]),(3,[0,1,2],[]),(4,.range 4,[])] else []
 | 41=>if r=8 then [(0,[],[]),(1,[0],[]),(2,[],[]),(3,[],[]),(4,[2,3],[]),(5,[2,3,4],[]),(6,.range 6,[]),(7,.range 7,[]),(8,[],[1,5,7]),(9,.range 9,[])] else if r=14 then [(0,[],[]),(1,[0],[]),(2,[0,1],[]),(3,[0,1],[]),(4,.range 4,[]),(5,.range 5,[]),(6,[0,1],[]),(7,.range 7,[]),(8,.range 8,[]),(9,.range 9,[])] else []
 | 42=>if r=7 then [(0,[],[]),(1,[],[]),(2,[0],[1]),(3,[0,1,2],[]),(4,.range 4,[])] else []
 | 43=>if r=9 then [(0,[],[]),(1,[],[]),(2,[1],[]),(3,[1,2],[]),(4,[1,2,3],[]),(5,[1,2,3,4],[]),(6,[],[]),(7,[],[]),(8,[7],[]),(9,[],[]),(10,[7,8,9],[]),(11,[7,8,9,10],[]),(12,[6,7,8,9,10,11],[5]),(13,[1,2,3,4,5,6,7,8,9,10,11,12],[]),(14,.range 14,[]),(15,.range 15,[]),(16,.range 16,[]),(17,.range 17,[])] else if r=19 then [(0,[],[]),(1,[],[]),(2,[1],[]),(3,[1,2],[]),(4,[1,2,3],[]),(5,[1,2,3,4],[]),(6,[],[]),(7,[],[]),(8,[6,7],[5]),(9,[1,2,3,4,5,6,7,8],[]),(10,.range 10,[]),(11,.range 11,[]),(12,.range 12,[]),(13,.range 13,[])] else []
 | 44=>if r=6 then [(0,[],[]),(1,[],[]),(2,[0,1],[]),(3,[0,1,2],[]),(4,[],[]),(5,[],[]),(6,[4,5],[]),(7,[4,5,6],[]),(8,.range 8,[])] else []
 | 45=>if r=6 then [(0,[],[]),(1,[],[]),(2,[0,1],[]),(3,[0,1,2],[]),(4,[],[]),(5,[],[]),(6,[4,5],[]),(7,[4,5,6],[]),(8,.range 8,[])] else []
 | 46=>if r=6 then [(0,[],[]),(1,[0],[]),(2,[],[]),(3,[0,1,2],[]),(4,.range 4,[]),(5,[],[]),(6,[5],[]),(7,[],[]),(8,[5,6,7],[]),(9,[5,6,7,8],[]),(10,[],[1,4,6,9]),(11,[],[1,4,6,9]),(12,[0,1,2,3,4,10,11],[6,9]),(13,.range 13,[])] else if r=12 then [(0,[],[]),(1,[0],[]),(2,[],[]),(3,[0,1,2],[]),(4,.range 4,[]),(5,[],[]),(6,[5],[]),(7,[],[]),(8,[5,6,7],[]),(9,[5,6,7,8],[]),(10,.range 10,[])] else []
 | 50=>if r=10 then [(0,[],[]),(1,[],[]),(2,[1],[]),(3,[1,2],[]),(4,[1,2,3],[]),(5,[],[]),(6,[5],[]),(7,.range 7,[]),(8,.range 8,[])] else if r=16 then [(0,[],[]),(1,[],[]),(2,[1],[]),(3,[1,2],[]),(4,[],[]),(5,[4],[]),(6,[4,5],[]),(7,[4,5,6],[]),(8,[1,2,3,4,5,6,7],[]),(9,[1,2,3,4,5,6,7,8],[]),(10,[],[]),(11,[10],[]),(12,[10,11],[]),(13,[],[]),(14,[13],[]),(15,[13,14],[]),(16,[13,14,15],[]),(17,[10,11,12,13,14,15,16],[]),(18,[10,11,12,13,14,15,16,17],[]),(19,[10,11,12,13,14,15,16,17,18],[]),(20,[],[]),(21,[20],[]),(22,[20,21],[]),(23,[],[]),(24,[23],[]),(25,[23,24],[]),(26,[23,24,25],[]),(27,[20,21,22,23,24,25,26],[]),(28,[20,21,22,23,24,25,26,27],[]),(29,[20,21,22,23,24,25,26,27,28],[]),(30,.range 30,[]),(31,.range 31,[])] else []
 | 79=>if r=7 then [(0,[],[]),(1,[],[]),(2,[1],[]),(3,[1,2],[]),(4,[1,2],[]),(5,[1,2,4],[]),(6,[1,2,4,5],[]),(7,[1,2,3,4,5,6],[]),(8,[1,2,3,4,5,6,7],[]),(9,[1,2,3,4,5,6,7,8],[]),(10,[1,2,3,4,5,6,7,8,9],[]),(11,[1,2,3,4,5,6,7,8,9,10],[]),(12,[1,2,3,4,5,6,7,8,9,10,11],[]),(13,.range 10,[]),(14,.range 14,[])] else []
 | 84=>if r=1 then [(0,[],[]),(1,[0],[]),(2,[0,1],[]),(3,[0,1,2],[]),(4,.range 4,[]),(5,[],[]),(6,[5],[]),(7,[5,6],[]),(8,[5,6,7],[]),(9,[5,6,7,8],[]),(10,.range 10,[]),(11,.range 11,[])] else []
 | 85=>if r=15 then [(0,[],[]),(1,[0],[]),(2,[],[]),(3,[0,1,2],[]),(4,[],[]),(5,[4],[]),(6,.range 6,[]),(7,.range 7,[]),(8,.range 8,[]),(9,.range 8,[]),(10,[],[1,3,5]),(11,[0,1,2,3,4,5,6,7,8,10],[]),(12,.range 12,[])] else []
 | 86=>if r=9 then [(0,[],[]),(1,[],[]),(2,[1],[]),(3,[0,1,2],[]),(4,[],[]),(5,[4],[]),(6,[],[]),(7,[4,5,6],[]),(8,[4,5,6,7],[]),(9,.range 4,[5,8]),(10,.range 10,[]),(11,.range 11,[])] else []
 | 88=>if r=6 then [(0,[],[]),(1,[],[]),(2,[1],[]),(3,[1,2],[]),(4,[1,2,3],[]),(5,[1,2,3,4],[]),(6,[],[]),(7,[6],[]),(8,[1,2,3,4,5,6,7],[]),(9,.range 9,[]),(10,.range 10,[]),(11,.range 11,[]),(12,.range 12,[])] else []
 | 91=>if r=7 then [(0,[],[]),(1,[],[]),(2,[],[]),(3,[2],[]),(4,[],[]),(5,[2,3,4],[]),(6,[2,3,4,5],[]),(7,.range 7,[]),(8,.range 8,[]),(9,.range 9,[]),(10,.range 9,[]),(11,.range 9,[]),(12,[],[0,3,6]),(13,[],[0,3,6]),(14,[0,1,2,3,4,5,6,7,8,9,12,13],[]),(15,[0,1,2,3,4,5,6,7,8,9,10,12,13,14],[]),(16,.range 16,[])] else if r=14 then [(0,[],[]),(1,[0],[]),(2,[],[]),(3,[],[]),(4,[2,3],[]),(5,[2,3,4],[]),(6,.range 6,[]),(7,.range 7,[]),(8,.range 8,[]),(9,.range 9,[])] else if r=16 then [(0,[],[]),(1,[],[]),(2,[],[]),(3,[],[]),(4,[2,3],[]),(5,[2,3,4],[]),(6,.range 6,[]),(7,.range 7,[]),(8,.range 8,[]),(9,.range 8,[]),(10,.range 9,[]),(11,.range 11,[])] else []
 | 93=>if r=11 then [(0,[],[]),(1,[],[]),(2,[1],[]),(3,[],[]),(5,[],[]),(6,[],[]),(8,[],[]),(9,[],[]),(4,[1,2,3],[6,9]),(7,[1,2,3,4,5,6],[9]),(10,[1,2,3,4,5,6,7,8,9],[]),(11,.range 11,[]),(12,.range 12,[])] else if r=14 then [(0,[],[]),(1,[],[]),(2,[],[]),(4,[],[]),(5,[],[]),(8,[],[]),(9,[],[]),(3,[1,2],[5,9]),(6,[1,2,3,4,5],[9]),(7,[1,2,3,4,5,6],[]),(10,[1,2,3,4,5,6,8,9],[]),(11,[1,2,3,4,5,6,8,9,10],[]),(12,.range 12,[]),(13,.range 13,[])] else if r=15 then [(0,[],[]),(1,[],[]),(2,[],[]),(4,[],[]),(5,[],[]),(7,[],[]),(8,[],[]),(11,[],[]),(12,[],[]),(14,[],[]),(15,[],[]),(17,[],[]),(18,[],[]),(3,[2],[5,8,15,18]),(6,[2,3,4,5],[8,15,18]),(9,[2,3,4,5,6,7,8],[15,18]),(10,[1,2,3,4,5,6,7,8,9],[15,18]),(13,[1,2,3,4,5,6,7,8,9,10,12],[15,18]),(16,[1,2,3,4,5,6,7,8,9,10,12,13,14,15],[18]),(19,[1,2,3,4,5,6,7,8,9,10,12,13,14,15,16,17,18],[]),(20,[1,2,3,4,5,6,7,8,9,10,11,12,13,14,15,16,17,18,19],[]),(21,[1,2,3,4,5,6,7,8,9,10,11,12,13,14,15,16,17,18,19,20],[]),(22,.range 22,[]),(23,.range 23,[])] else if r=23 then [(0,[],[]),(1,[],[]),(2,[],[]),(4,[],[]),(5,[],[]),(7,[],[]),(8,[],[]),(9,[],[]),(3,[2],[5,8]),(6,[2,3,4,5],[8]),(10,[2,3,4,5,6,7,8,9],[]),(11,[1,2,3,4,5,6,7,8,9,10],[]),(12,[1,2,3,4,5,6,7,8,9,10,11],[]),(13,.range 13,[]),(14,.range 14,[])] else []
 | 94=>if r=16 then [(0,[],[]),(1,[],[]),(2,[1],[]),(3,[1,2],[]),(4,[1,2,3],[0]),(5,.range 5,[]),(6,.range 6,[]),(7,.range 7,[])] else if r=20 then [(0,[],[]),(1,[0],[]),(2,[0,1],[]),(3,[0,1,2],[]),(4,.range 4,[]),(5,[],[]),(6,[5],[]),(7,[5,6],[]),(8,.range 8,[])] else if r=28 then [(0,[],[]),(1,[0],[]),(2,[],[]),(3,[0,1,2],[]),(4,.range 4,[]),(5,.range 5,[]),(6,[],[]),(7,[6],[]),(8,[],[]),(9,[6,7,8],[]),(10,[6,7,8,9],[]),(11,[6,7,8,9,10],[]),(12,.range 12,[])] else if r=36 then [(0,[],[]),(1,[0],[]),(2,[],[]),(3,[0,1,2],[]),(4,.range 4,[]),(5,[],[]),(6,[5],[]),(7,[],[]),(8,[5,6,7],[]),(9,[5,6,7,8],[]),(10,.range 10,[])] else if r=41 then [(0,[],[]),(1,[],[]),(2,[1],[]),(3,[],[]),(4,[1,2,3],[]),(5,[1,2,3,4],[]),(6,[1,2,3,4,5],[]),(7,.range 7,[]),(8,.range 8,[])] else if r=46 then [(0,[],[]),(1,[0],[]),(2,[],[]),(3,[0,1,2],[]),(4,.range 4,[]),(5,.range 5,[]),(6,.range 6,[]),(7,.range 7,[]),(8,.range 8,[]),(9,.range 8,[]),(10,[0,1,2,3,4,5,6,7,9],[]),(11,.range 8,[]),(12,[0,1,2,3,4,5,6,7,9,10,11],[]),(13,[0,1,2,3,4,5,6,7,9,10,11,12],[]),(14,[0,1,2,3,4,5,6,7,9,10,11,12,13],[]),(15,.range 15,[]),(16,.range 16,[]),(17,.range 17,[])] else []
 | 95=>if r=1 then [(0,[],[]),(1,[],[]),(2,[1],[]),(3,[1,2],[]),(4,[1,2,3],[0]),(5,.range 5,[]),(6,.range 6,[]),(7,.range 7,[])] else []
 | 96=>if r=16 then [(0,[],[]),(1,[],[]),(2,[0,1],[]),(3,[0,1,2],[]),(4,.range 4,[]),(5,[],[]),(6,[],[]),(7,[5,6],[]),(8,[5,6,7],[]),(9,[5,6,7,8],[]),(10,.range 10,[])] else []
 | 98=>if r=2 then [(0,[],[]),(1,[0],[]),(2,[0,1],[]),(3,[0,1,2],[]),(4,.range 4,[]),(5,[],[]),(6,[5],[]),(7,[5,6],[]),(8,[5,6,7],[]),(9,.range 9,[]),(10,.range 10,[]),(11,[],[4,6,8,10]),(12,.range 12,[])] else if r=3 then [(0,[],[]),(1,[0],[]),(2,[0,1],[]),(3,[0,1,2],[]),(4,.range 4,[]),(5,[],[]),(6,[5],[]),(7,[5,6],[]),(8,[5,6,7],[]),(9,.range 9,[]),(10,.range 10,[]),(11,[],[4,6,8,10]),(12,.range 12,[])] else if r=4 then [(0,[],[]),(1,[],[]),(3,[],[]),(4,[],[]),(2,[0,1],[4]),(5,.range 5,[]),(6,[],[1,4]),(7,.range 7,[]),(8,.range 8,[])] else if r=6 then [(0,[],[]),(1,[],[]),(2,[],[]),(4,[],[]),(5,[],[]),(6,[5],[]),(7,[5,6],[]),(8,[5,6,7],[]),(9,[5,6,7,8],[]),(10,[],[]),(11,[10],[]),(12,[10,11],[]),(13,[10,11,12],[]),(14,[5,6,7,8,9,10,11,12,13],[]),(15,[5,6,7,8,9,10,11,12,13,14],[]),(3,[1,2],[4,9,11,13,15]),(16,[1,2,3,4,5,6,7,8,9,10,11,12,13,14,15],[]),(17,.range 17,[]),(18,.range 18,[]),(19,.range 19,[])] else if r=12 then [(0,[],[]),(1,[],[]),(3,[],[]),(4,[],[]),(2,[0,1],[4]),(5,.range 5,[]),(6,[],[1,4]),(7,.range 7,[]),(8,.range 8,[])] else if r=14 then [(0,[],[]),(3,[],[]),(1,[0],[3]),(2,[0,1],[]),(4,[0,1,3],[]),(5,.range 5,[]),(6,.range 6,[])] else []
 | 102=>if r=3 then [(0,[],[]),(1,[],[]),(2,[],[]),(3,[2],[]),(4,[2,3],[]),(5,[],[]),(6,[5],[]),(7,[],[]),(8,[5,6,7],[]),(9,[5,6,7,8],[]),(10,[2,3,4,5,6,7,8,9],[]),(11,[2,3,4,5,6,7,8,9,10],[]),(12,[],[]),(13,[12],[]),(14,[12,13],[]),(15,[],[]),(16,[15],[]),(17,[],[]),(18,[15,16,17],[]),(19,[15,16,17,18],[]),(20,[12,13,14,15,16,17,18,19],[]),(21,[12,13,14,15,16,17,18,19,20],[]),(22,.range 22,[]),(23,.range 23,[])] else []
 | 104=>if r=2 then [(0,[],[]),(1,[],[]),(2,[],[]),(3,[2],[0,1]),(4,.range 4,[]),(5,.range 5,[]),(6,.range 6,[])] else []
 | 108=>if r=1 then [(0,[],[]),(1,[0],[]),(2,[0,1],[]),(3,[],[]),(4,[3],[]),(5,[],[]),(6,[3,4,5],[]),(7,[3,4,5,6],[]),(8,.range 8,[]),(9,.range 9,[]),(10,.range 10,[]),(11,.range 11,[])] else []
 | 109=>if r=2 then [(0,[],[]),(1,[],[]),(2,[1],[]),(3,[0,1,2],[]),(4,[],[]),(5,[],[]),(6,[5],[]),(7,[4,5,6],[]),(8,.range 4,[]),(9,.range 9,[])] else if r=8 then [(0,[],[]),(1,[],[]),(2,[1],[0]),(3,[0,1,2],[]),(4,.range 4,[])] else if r=9 then [(0,[],[]),(1,[],[]),(2,[],[]),(4,[],[]),(3,[2],[1]),(5,[2,3,4],[1]),(6,[1,2,3,4,5],[]),(7,.range 7,[]),(8,.range 8,[]),(9,.range 9,[])] else []
 | 118=>if r=4 then [(0,[],[]),(1,[],[]),(2,[],[]),(3,[1,2],[]),(4,[1,2,3],[]),(5,.range 5,[])] else []
 | 128=>if r=5 then [(0,[],[]),(1,[0],[]),(2,[],[]),(3,[2],[]),(4,[],[]),(5,[4],[]),(6,[4,5],[]),(7,[4,5,6],[]),(8,[4,5,6,7],[]),(9,[4,5,6,7,8],[]),(10,[4,5,6,7],[]),(11,[4,5,6,7,8,9,10],[]),(12,[4,5,6,7,8,9,10,11],[]),(13,[0,1,4,5,6,7],[]),(14,[0,1,2,3,4,5,6,7,13],[]),(15,.range 15,[])] else []
 | 141=>if r=1 then [(0,[],[]),(1,[],[]),(2,[1],[]),(3,[1,2],[]),(4,[1,2,3],[]),(6,[],[]),(7,[6],[]),(8,[6,7],[]),(9,[6,7,8],[]),(10,[],[]),(11,[10],[]),(12,[10,11],[]),(13,[10,11,12],[]),(14,[6,7,8,9,10,11,12,13],[]),(15,[6,7,8,9,10,11,12,13,14],[]),(5,.range 5,[9,11,13,15]),(16,[],[2,4,9,11,13,15]),(17,[],[2,4,9,11,13,15]),(18,[0,1,2,3,4,5,16,17],[9,11,13,15]),(19,.range 19,[])] else if r=3 then [(0,[],[]),(1,[0],[]),(2,[],[]),(3,[],[]),(5,[],[]),(6,[],[]),(7,[6],[]),(8,[6,7],[]),(9,[6,7,8],[]),(10,[],[]),(11,[10],[]),(12,[10,11],[]),(13,[10,11,12],[]),(14,[6,7,8,9,10,11,12,13],[]),(15,[6,7,8,9,10,11,12,13,14],[]),(4,[2,3],[1,5,9,11,13,15]),(16,[2,3,4,5,6,7,8,9,10,11,12,13,14,15],[1]),(17,.range 17,[]),(18,.range 18,[]),(19,.range 19,[])] else if r=8 then [(0,[],[]),(1,[],[]),(2,[1],[]),(3,[],[]),(4,[],[]),(5,[3,4],[2]),(6,.range 6,[]),(7,.range 7,[]),(8,.range 8,[])] else []
 | 143=>if r=22 then [(0,[],[]),(1,[0],[]),(2,[],[]),(3,[2],[]),(4,[2,3],[1]),(5,.range 5,[]),(6,[],[1,3]),(7,.range 7,[])] else []
 | 144=>if r=18 then [(0,[],[]),(1,[],[]),(2,[],[]),(3,[2],[]),(4,[2,3],[]),(5,[2,3,4],[]),(6,[],[]),(7,[6],[]),(8,[],[]),(9,[6,7,8],[]),(10,[6,7,8,9],[]),(11,.range 11,[]),(12,.range 12,[])] else []
 | 146=>if r=2 then [(0,[],[]),(1,[],[]),(2,[],[]),(3,[2],[0,1]),(4,.range 4,[]),(5,.range 5,[]),(6,.range 6,[])] else if r=13 then [(0,[],[]),(1,[],[]),(3,[],[]),(2,[1],[3]),(4,[1,2,3],[]),(5,.range 5,[]),(6,.range 6,[])] else if r=17 then [(0,[],[]),(1,[],[]),(2,[],[]),(3,[2],[0,1]),(4,.range 4,[]),(5,.range 5,[]),(6,.range 6,[])] else if r=18 then [(0,[],[]),(1,[],[]),(3,[],[]),(4,[],[]),(2,[0,1],[4]),(5,.range 5,[]),(6,[],[1,4]),(7,[],[1,4]),(8,.range 8,[]),(9,.range 9,[])] else if r=19 then [(0,[],[]),(1,[0],[]),(2,[],[]),(3,[2],[]),(4,.range 4,[]),(5,[],[]),(6,[5],[]),(7,[],[]),(8,[7],[]),(9,[5,6,7,8],[]),(10,.range 5,[]),(11,.range 11,[])] else if r=28 then [(0,[],[]),(1,[],[]),(3,[],[]),(2,[1],[3]),(4,[1,2,3],[]),(5,.range 5,[]),(6,.range 6,[])] else []
 | 148=>if r=1 then [(0,[],[]),(1,[0],[]),(2,[0,1],[]),(3,[0,1,2],[]),(4,.range 4,[]),(5,[],[]),(6,[5],[]),(7,[],[]),(8,[5,6,7],[]),(9,[5,6,7,8],[]),(10,.range 10,[]),(11,.range 11,[]),(12,.range 12,[])] else []
 | 149=>if r=2 then [(0,[],[]),(1,[],[]),(2,[1],[]),(3,[0,1,2],[]),(4,[],[]),(5,[],[]),(6,[5],[]),(7,[4,5,6],[]),(8,.range 4,[]),(9,.range 9,[])] else []
 | 153=>if r=16 then [(0,[],[]),(1,[],[]),(2,[1],[]),(3,[],[]),(4,[1,2,3],[]),(5,[1,2,3,4],[]),(6,[],[]),(7,[6],[]),(8,[],[]),(9,[8],[]),(10,[8,9],[]),(11,.range 11,[])] else []
 | 156=>if r=4 then [(0,[],[]),(1,[0],[]),(2,[0,1],[]),(3,[0,1,2],[]),(4,[],[]),(5,.range 5,[]),(6,.range 6,[]),(7,.range 7,[]),(8,[],[]),(9,[8],[]),(10,.range 10,[]),(11,.range 11,[]),(12,.range 12,[]),(13,.range 13,[]),(14,.range 14,[]),(15,.range 15,[]),(16,.range 12,[]),(17,.range 17,[]),(18,.range 18,[]),(19,.range 19,[]),(20,.range 12,[]),(21,[0,1,2,3,4,5,6,7,8,9,10,11,20],[]),(22,.range 22,[]),(23,.range 23,[])] else []
 | 157=>if r=1 then [(0,[],[]),(1,[0],[]),(2,[0,1],[]),(3,[0,1,2],[]),(4,[],[]),(5,[4],[]),(6,[4,5],[]),(7,[4,5,6],[]),(8,[],[]),(9,[8],[]),(10,[],[]),(11,[10],[]),(12,[8,9,10,11],[]),(13,.range 13,[]),(14,.range 14,[]),(15,.range 15,[]),(16,.range 15,[]),(17,.range 15,[]),(18,[],[3,7,9,11]),(19,[],[3,7,9,11]),(20,[0,1,2,3,4,5,6,7,8,9,10,11,12,13,14,15,18,19],[]),(21,[0,1,2,3,4,5,6,7,8,9,10,11,12,13,14,15,16,18,19,20],[]),(22,.range 22,[])] else []
 | 158=>if r=6 then [(0,[],[]),(1,[0],[]),(2,[],[]),(3,[0,1,2],[]),(4,.range 4,[]),(5,[],[]),(6,[5],[]),(7,.range 7,[])] else []
 | 161=>if r=17 then [(0,[],[]),(1,[0],[]),(2,[],[]),(3,[2],[]),(4,[2,3],[]),(5,[2,3,4],[]),(6,[2,3,4,5],[]),(7,[],[]),(8,[7],[]),(9,[2,3,4,5,6,7,8],[1]),(10,.range 10,[]),(11,.range 11,[]),(12,.range 12,[])] else if r=26 then [(0,[],[]),(1,[0],[]),(2,[],[]),(3,[2],[]),(4,[],[]),(5,[2,3,4],[]),(6,[2,3,4,5],[]),(7,[],[]),(8,[2,3,4,5,6,7],[]),(9,[2,3,4,5,6,7,8],[]),(10,.range 10,[]),(11,.range 11,[]),(12,.range 12,[])] else []
 | 162=>if r=14 then [(0,[],[]),(1,[0],[]),(2,[0,1],[]),(3,[0,1,2],[]),(4,[],[]),(5,[],[]),(6,.range 6,[]),(7,.range 7,[])] else []
 | 165=>if r=17 then [(0,[],[]),(1,[],[]),(2,[1],[0]),(3,[0,1,2],[]),(4,.range 4,[])] else []
 | 167=>if r=2 then [(0,[],[]),(1,[],[]),(2,[],[]),(3,[2],[0,1]),(4,.range 4,[]),(5,.range 5,[]),(6,.range 6,[])] else if r=3 then [(0,[],[]),(1,[],[]),(3,[],[]),(4,[],[]),(2,[0,1],[3,4]),(5,.range 5,[]),(6,[],[0,1,3,4]),(7,[],[0,1,3,4]),(8,.range 8,[]),(9,.range 9,[])] else if r=4 then [(0,[],[]),(1,[0],[]),(2,[],[]),(3,[2],[]),(4,.range 4,[]),(5,[],[]),(6,[5],[]),(7,[],[]),(8,[7],[]),(9,[5,6,7,8],[]),(10,.range 5,[]),(11,.range 11,[])] else []
 | 173=>if r=6 then [(0,[],[]),(1,[0],[]),(2,[0,1],[]),(3,[],[]),(4,.range 4,[])] else []
 | 183=>if r=2 then [(0,[],[]),(1,[0],[]),(2,[0,1],[]),(3,[0,1,2],[]),(4,[],[]),(5,[4],[]),(6,[],[]),(7,[6],[]),(8,[4,5,6,7],[]),(9,.range 9,[]),(10,.range 10,[])] else []
 | 190=>if r=11 then [(0,[],[]),(1,[0],[]),(2,[0,1],[]),(3,[0,1,2],[]),(4,[0,1],[]),(5,[0,1,4],[]),(6,[0,1],[]),(7,[0,1,4,5,6],[]),(8,[0,1,4,5,6,7],[]),(9,[0,1,4,5,6,7,8],[]),(10,.range 10,[]),(11,.range 11,[]),(12,.range 12,[]),(13,.range 13,[]),(14,.range 14,[]),(15,.range 15,[]),(16,.range 16,[]),(17,.range 17,[]),(18,.range 16,[]),(19,[0,1,2,3,4,5,6,7,8,9,10,11,12,13,14,15,18],[]),(20,.range 16,[]),(21,[0,1,2,3,4,5,6,7,8,9,10,11,12,13,14,15,18,19,20],[]),(22,[0,1,2,3,4,5,6,7,8,9,10,11,12,13,14,15,18,19,20,21],[]),(23,[0,1,2,3,4,5,6,7,8,9,10,11,12,13,14,15,18,19,20,21,22],[]),(24,.range 24,[]),(25,.range 25,[]),(26,.range 26,[]),(27,.range 27,[])] else []
 | 193=>if r=1 then [(0,[],[]),(1,[0],[]),(2,[0,1],[]),(3,[0,1,2],[]),(4,[],[]),(5,[4],[]),(6,[4,5],[]),(7,[4,5,6],[]),(8,[],[]),(9,[8],[]),(10,[],[]),(11,[10],[]),(12,[8,9,10,11],[]),(13,.range 13,[]),(14,.range 14,[]),(15,.range 15,[]),(16,.range 15,[]),(17,.range 15,[]),(18,[],[3,7,9,11]),(19,[],[3,7,9,11]),(20,[0,1,2,3,4,5,6,7,8,9,10,11,12,13,14,15,18,19],[]),(21,[0,1,2,3,4,5,6,7,8,9,10,11,12,13,14,15,16,18,19,20],[]),(22,.range 22,[])] else []
 | 207=>if r=11 then [(0,[],[]),(1,[],[]),(2,[0,1],[]),(3,[0,1,2],[]),(4,[],[]),(5,[],[]),(6,[4,5],[]),(7,[4,5,6],[]),(8,.range 8,[])] else []
 | 210=>if r=4 then [(0,[],[]),(1,[0],[]),(2,[0,1],[]),(3,[],[]),(4,.range 4,[]),(5,.range 5,[])] else []
 | 230=>if r=7 then [(0,[],[]),(1,[],[]),(2,[1],[]),(3,[],[]),(4,[],[]),(5,[4],[]),(6,[],[]),(7,[6],[]),(8,[6,7],[]),(9,[],[]),(10,[9],[]),(11,[0,1,2,6,7,8],[]),(12,[0,1,2,6,7,8,11],[]),(13,.range 13,[]),(14,.range 14,[])] else if r=8 then [(0,[],[]),(1,[],[]),(2,[1],[]),(3,[],[]),(4,[],[]),(5,[4],[]),(6,[],[]),(7,[6],[]),(8,[6,7],[]),(9,[],[]),(10,[9],[]),(11,[0,1,2,6,7,8],[]),(12,[0,1,2,6,7,8,11],[]),(13,.range 13,[]),(14,.range 14,[])] else if r=9 then [(0,[],[]),(1,[],[]),(2,[1],[]),(3,[],[]),(4,[],[]),(5,[4],[]),(6,[],[]),(7,[6],[]),(8,[6,7],[]),(9,[],[]),(10,[9],[]),(11,[0,1,2,6,7,8],[]),(12,[0,1,2,6,7,8,11],[]),(13,.range 13,[]),(14,.range 14,[])] else if r=10 then [(0,[],[]),(1,[],[]),(2,[1],[]),(3,[],[]),(4,[],[]),(5,[4],[]),(6,[],[]),(7,[6],[]),(8,[6,7],[]),(9,[],[]),(10,[9],[]),(11,[0,1,2,6,7,8],[]),(12,[0,1,2,6,7,8,11],[]),(13,.range 13,[]),(14,.range 14,[])] else if r=17 then [(0,[],[]),(1,[],[]),(2,[1],[]),(3,[],[]),(4,[],[]),(5,[4],[]),(6,[],[]),(7,[6],[]),(8,[6,7],[]),(9,[],[]),(10,[9],[]),(11,[0,1,2,6,7,8],[]),(12,[0,1,2,6,7,8,11],[]),(13,.range 13,[]),(14,.range 14,[])] else if r=18 then [(0,[],[]),(1,[],[]),(2,[1],[]),(3,[],[]),(4,[],[]),(5,[4],[]),(6,[],[]),(7,[6],[]),(8,[6,7],[]),(9,[],[]),(10,[9],[]),(11,[0,1,2,6,7,8],[]),(12,[0,1,2,6,7,8,11],[]),(13,.range 13,[]),(14,.range 14,[])] else if r=23 then [(0,[],[]),(1,[],[]),(2,[1],[]),(3,[],[]),(4,[],[]),(5,[4],[]),(6,[],[]),(7,[6],[]),(8,[6,7],[]),(9,[],[]),(10,[9],[]),(11,[0,1,2,6,7,8],[]),(12,[0,1,2,6,7,8,11],[]),(13,.range 13,[]),(14,.range 14,[])] else []
 | 237=>if r=6 then [(0,[],[]),(1,[],[]),(2,[0,1],[]),(3,[0,1,2],[]),(4,[],[]),(5,[],[]),(6,[4,5],[]),(7,[4,5,6],[]),(8,.range 8,[])] else []
 | 256=>if r=6 then [(0,[],[]),(1,[],[]),(2,[0,1],[]),(3,[0,1,2],[]),(4,[],[]),(5,[],[]),(6,[4,5],[]),(7,[4,5,6],[]),(8,.range 8,[])] else []
 |_=>[]
def adl(f:Nat):Bool:=f==12
def adm(f d:Nat):Bool:=(f==41&&d==3) ||(f==50&&d==10) ||(f==162&&d==8) ||(f==106&&d==5) ||(f==106&&d==11) ||(f==278&&d==6) ||(f==93&&d==8) ||(f==150&&d==5) ||(f==150&&d==8) ||(f==39&&d==6) ||(f==89&&d==6) ||(f==43&&d==9) ||(f==28&&d==7) ||(f==29&&d==8) ||(f==31&&d==6)
def adn(f d:Nat):Bool:=(f==51&&d==4) ||(f==187&&d==5) ||(f==48&&d==5) ||(f==49&&d==5) ||(f==87&&d==5) ||(f==141&&d==10) ||(f==26&&d==32) ||(f==143&&d==62) ||(f==161&&d==58) ||(f==35&&d==6)
def OH(f d:Nat):Option Nat:=if f==94&&d==136 then some 9 else if f==95&&d==10 then some 9 else if f==12&&d==48 then some 6040302 else if f==13&&d==44 then some 14121110 else none
def YT(f:FuncId):Bool:=f==187
def YU (f d : Nat) : Option String := if (f == 225 && d == 28) || (f == 226 && d == 29) || (f == 226 && d == 42) || (f == 227 && d == 36) then some "domino/meaning.compare" else none
def ado(f d:Nat):Bool:=(f==277&&d==28) ||(f==92&&d==37)
def adp(f d:Nat):Bool:=(f==277&&d==34) ||(f==278&&d==37) ||(f==92&&d==42)
def adq(f d:Nat):Option (Nat×Nat×Nat):=if f==277&&d==14 then some (4,3,1) else if f==277&&d==46 then some (4,3,1) else if f==278&&d==16 then some (4,3,1) else if f==92&&d==14 then some (4,3,1) else none
def adr(f d:Nat):Bool:=(f==143&&d==123) ||(f==161&&d==133)
def ads(f d:Nat):Bool:=(f==143&&d==80) ||(f==161&&d==80)
def YV(f d:Nat):Option Nat:=none
theorem OI:∀s,some Tryz.f177.name=some s->DN s:=λs h=>by
 injection h with h
 subst h;exact⟨by kernel_rfl,by kernel_rfl,by kernel_rfl,by kernel_rfl,by kernel_rfl⟩
def H:Hints:={ GM:=some Tryz.f177.name,KJ:=OI,mat:=adm,ldq:=ado,stq:=adp,mkq:=adq,mkv:=adr,stv:=ads,YW:=YV,own:=adn,quiet:=λ_=>false,live:=YR,draw:=YS,dfr:=adl,inv:=[252,254,319,320],YX:=OH,kept:=YT,iM:=YU }
def Jv(f:FuncId)(args:List AV)(h:Heap):Option Out:=match f,args with
 | 284,[.str a,.str b]=>some (.val (.int .i64 (Lib.compareBytes a b)) h)
 | 187,[.lst []]=>some (.val (.lst []) h)
 | 48,[.lst []]=>some (.val (.lst []) h)
 | 49,[.lst []]=>some (.val (.lst []) h)
 | 87,[.lst []]=>some (.val (.lst []) h)
 |_,_=>none
theorem iN {P : Program} {f : FuncId} {fn : Func} {c : Code} (hf : P.funcs[f]? = some fn) (hname : (fn.name == "runtime.NumGoroutine") = false) (hb : fn.body = some c) (args : Array Value) (w : World) :
  (callFunc f args).run P w=.ok (.enter f args) w:=by
 have h1 : fn.name ≠ "runtime.NumGoroutine" := by simpa using hname
 simp[callFunc,hf,h1,hb]
theorem M4(a b:ByteArray)(w:World):Calls Tryz.prog 284 #[.string a,.string b] w λe w'=>e=.returned (.int .i64 (Lib.compareBytes a.data.toList b.data.toList))∧w'=w:=by
 go_enter Tryz.func284,Tryz.ntmps284
 go_wp2
 rw[run_callFunc_extern Tryz.func285 (by kernel_rfl) (by kernel_rfl) (by kernel_rfl) (e:=Extern.BytealgCompare.compare) (by kernel_rfl),Lib.run_compareString];simp only[Result.andThen];rw[Oper.upon_value]
 go_wp2
 go_ret
 exact⟨rfl,rfl⟩
open Go.RowKit in
theorem Fj(t:TypeId){el:TypeId}(hu:Tryz.prog.underlying t=some (.slice el))(c:Nat)(w:World):(binOp .eql t (.slice none 0 c) (.slice none 0 0)).run Tryz.prog w=.ok (.bool true) w:=by
 have h1:(Op.equal t (.slice none 0 c) (.slice none 0 0)).run Tryz.prog w=.ok true w:=oN λn=>by simp[Op.equalIn,run_underlying hu]
 simp[binOp,h1]
open Go.RowKit in
theorem Fk(t:TypeId){el:TypeId}(hu:Tryz.prog.underlying t=some (.slice el))(a:Addr)(c:Nat)(w:World):(binOp .eql t (.slice (some a) 0 c) (.slice none 0 0)).run Tryz.prog w=.ok (.bool false) w:=
 (KM (k:=.slice) ⟨_,rfl⟩ hu (.inr ⟨rfl,_,_,_,rfl⟩) (.tmp 3) (.slice none 0 0) .eql).1
open Go.RowKit in
theorem YY(a:Option Addr)(c:Nat)(w:World):Calls Tryz.prog 187 #[.slice a 0 c] w λe w'=>(∃a' c',e=.returned (.slice a' 0 c'))∧(w'=w∨∃o,w'=w.alloc o):=by
 cases a with
 |none=>
  have e:=Fj 57 Tryz.underlying57 c w
  go_enter Tryz.func187,Tryz.ntmps187
  go_wp2
  go_ret
  exact⟨⟨_,_,rfl⟩,.inl rfl⟩
 |some a=>
  have e:=Fk 57 Tryz.underlying57 a c w
  go_enter Tryz.func187,Tryz.ntmps187
  go_wp2
  go_ret
  exact⟨⟨_,_,rfl⟩,.inr ⟨_,rfl⟩⟩
open Go.RowKit in
theorem adt(a:Option Addr)(c:Nat)(w:World):Calls Tryz.prog 48 #[.slice a 0 c] w λe w'=>(∃a' c',e=.returned (.slice a' 0 c'))∧(w'=w∨∃o,w'=w.alloc o):=by
 cases a with
 |none=>
  have e:=Fj 22 Tryz.underlying22 c w
  go_enter Tryz.func48,Tryz.ntmps48
  go_wp2
  go_ret
  exact⟨⟨_,_,rfl⟩,.inl rfl⟩
 |some a=>
  have e:=Fk 22 Tryz.underlying22 a c w
  go_enter Tryz.func48,Tryz.ntmps48
  go_wp2
  go_ret
  exact⟨⟨_,_,rfl⟩,.inr ⟨_,rfl⟩⟩
open Go.RowKit in
theorem adu(a:Option Addr)(c:Nat)(w:World):Calls Tryz.prog 49 #[.slice a 0 c] w λe w'=>(∃a' c',e=.returned (.slice a' 0 c'))∧(w'=w∨∃o,w'=w.alloc o):=by
 cases a with
 |none=>
  have e:=Fj 23 Tryz.underlying23 c w
  go_enter Tryz.func49,Tryz.ntmps49
  go_wp2
  go_ret
  exact⟨⟨_,_,rfl⟩,.inl rfl⟩
 |some a=>
  have e:=Fk 23 Tryz.underlying23 a c w
  go_enter Tryz.func49,Tryz.ntmps49
  go_wp2
  go_ret
  exact⟨⟨_,_,rfl⟩,.inr ⟨_,rfl⟩⟩
open Go.RowKit in
theorem adv(a:Option Addr)(c:Nat)(w:World):Calls Tryz.prog 87 #[.slice a 0 c] w λe w'=>(∃a' c',e=.returned (.slice a' 0 c'))∧(w'=w∨∃o,w'=w.alloc o):=by
 cases a with
 |none=>
  have e:=Fj 48 Tryz.underlying48 c w
  go_enter Tryz.func87,Tryz.ntmps87
  go_wp2
  go_ret
  exact⟨⟨_,_,rfl⟩,.inl rfl⟩
 |some a=>
  have e:=Fk 48 Tryz.underlying48 a c w
  go_enter Tryz.func87,Tryz.ntmps87
  go_wp2
  go_ret
  exact⟨⟨_,_,rfl⟩,.inr ⟨_,rfl⟩⟩
theorem OJ{w:World}{G:Gm}{L:Loc->Prop}{x:Value}(h:aD w G L (.lst []) x):∃a c,x=.slice a 0 c:=by
 cases h<;>exact⟨_,_,rfl⟩
theorem KN{f:FuncId}(hc:∀(a:Option Addr) (c:Nat) (w:World),Calls Tryz.prog f #[.slice a 0 c] w λe w'=>(∃a' c',e=.returned (.slice a' 0 c'))∧(w'=w∨∃o,w'=w.alloc o)){h:Heap}(w:World)(G:Gm)(xs:Array Value)(hs:Sim w G h)(ha:cg w G (dom h) [.lst []] xs) :
  Calls Tryz.prog f xs w (eZ w G h (.val (.lst []) h)):=by
 obtain⟨h1,h2⟩:=ha;obtain⟨xs⟩:=xs
 match xs,h1 with
 | [x],_=>
  have k0:=h2 0 (by simp);simp only[af6]at k0;obtain⟨a,c,rfl⟩:=OJ k0;refine (hc a c w).mono ?_;rintro e w' ⟨⟨a',c',rfl⟩,rfl|⟨o,rfl⟩⟩
  ·exact⟨G,hs,Goes.refl _ _ _,_,rfl,.mU _ _ _⟩
  ·have e1:w.heap.size<=(w.alloc o).heap.size:=by simp
   have e2:∀b,b<w.heap.size->(w.alloc o).heap[b]?=w.heap[b]?:=λb hb=>by
    have:=World.grownBy_alloc w o none;obtain⟨_,_,_,_,e⟩:=this;exact e b hb (by simp)
   exact⟨G,hs.world e1 e2,Goes.world hs rfl rfl rfl e1 e2,_,rfl,.mU _ _ _⟩
theorem KO:∀f args h out,Jv f args h=some out->eG Tryz.prog f∧∀(w:World) (G:Gm) (xs:Array Value),Sim w G h->cg w G (dom h) args xs->Calls Tryz.prog f xs w (eZ w G h out):=λf args h out e=>by
 unfold Jv at e;split at e
 ·rename_i a b;injection e with e
  subst e;refine⟨λargs w=>iN Tryz.func284 (by kernel_rfl) rfl args w,λw G xs hs ha=>?_⟩;obtain⟨h1,h2⟩:=ha;obtain⟨xs⟩:=xs
  match xs,h1 with
  | [x,y],_=>
   have k0:=h2 0 (by simp);have k1:=h2 1 (by simp);simp only[af6,agJ]at k0 k1;have e0:x=.string ⟨a.toArray⟩:=by cases k0;rfl
   have e1:y=.string ⟨b.toArray⟩:=by cases k1;rfl
   subst e0 e1;refine (M4 ⟨a.toArray⟩ ⟨b.toArray⟩ w).mono ?_;rintro e w' ⟨rfl,rfl⟩;exact⟨G,hs,Goes.refl _ _ _,_,rfl,.int _ _ _⟩
 ·injection e with e
  subst e;exact⟨λargs w=>iN Tryz.func187 (by kernel_rfl) rfl args w,λw G xs hs ha=>KN YY w G xs hs ha⟩
 ·injection e with e
  subst e;exact⟨λargs w=>iN Tryz.func48 (by kernel_rfl) rfl args w,λw G xs hs ha=>KN adt w G xs hs ha⟩
 ·injection e with e
  subst e;exact⟨λargs w=>iN Tryz.func49 (by kernel_rfl) rfl args w,λw G xs hs ha=>KN adu w G xs hs ha⟩
 ·injection e with e
  subst e;exact⟨λargs w=>iN Tryz.func87 (by kernel_rfl) rfl args w,λw G xs hs ha=>KN adv w G xs hs ha⟩
 ·cases e
def aa(f:FuncId):Bool:=!(f==277 ||f==278 ||f==92)
def K:Cfg:={ X:=Jv,fns:=OL Tryz.prog H,jS:=aa,dfn:=GN Tryz.prog H }
theorem sound:cV Tryz.prog (mu K):=(Bf rfl rfl KO).1
abbrev yZ:AV:=.int .i64 0
abbrev y0:Opd:=.c (.bool false)
abbrev y1:Opd:=.c (.bool true)
abbrev yn(d g:Nat)(b:Bool)(x:Nat):CO:=.mk (some d) (some (g, b)) (.m (.load false 1 (.t x)))
abbrev yg(d g:Nat)(b:Bool)(k x:Nat):CO:=.mk (some d) (some (g, b)) (.p (.fa k (.t x)))
abbrev yv(d g:Nat)(b:Bool)(x:Nat):CO:=.mk (some d) (some (g, b)) (.p (.mv (.t x)))
abbrev yl(d x:Nat):CO:=.mk (some d) none (.p (.len true (.t x)))
abbrev ye(d x k:Nat):CO:=.mk (some d) none (.p (.ext (.t x) k))
abbrev yk(d x:Nat):CO:=.mk (some d) none (.p (.GP (.t x)))
abbrev yb(d g:Nat)(q:Bool)(o:BinOp)(a b:Opd):CO:=.mk (some d) (some (g, q)) (.p (.bin o a b))
abbrev yp(d x:Nat)(a b:Opd):CO:=.mk (some d) none (.p (.pick (.t x) a b))
abbrev yW(d:Nat)(x:Opd):CO:=.mk (some d) none (.p (.mv x))
abbrev ya(d n:Nat)(v:AV):CO:=.mk (some d) none (.m (.alloc n v false))
abbrev yP(d:Nat)(x:POp):CO:=.mk (some d) none (.p x)
abbrev yM(d:Nat)(x:MOp):CO:=.mk (some d) none (.m x)
abbrev yV(d x:Nat):CO:=.mk (some d) none (.p (.mv (.t x)))
abbrev yF(d k x:Nat):CO:=.mk (some d) none (.p (.fa k (.t x)))
abbrev yL(d x:Nat):CO:=.mk (some d) none (.m (.load false 1 (.t x)))
abbrev yI(n:Int):Opd:=.c (.int .i64 n)
abbrev yS(n a b:Nat):CO:=.mk none none (.m (.store n false (.t a) (.t b)))
abbrev yR(d n x:Nat):CO:=.mk (some d) none (.m (.load true n (.t x)))
abbrev yC(d:Nat)(f:FuncId)(l:List Opd):CO:=.mk (some d) none (.m (.call (.c (.fn (.func f) [] [])) l))
abbrev yG(d g:Nat)(b:Bool)(x:POp):CO:=.mk (some d) (some (g, b)) (.p x)
abbrev yN(d g:Nat)(b:Bool)(x:MOp):CO:=.mk (some d) (some (g, b)) (.m x)
abbrev yX(l:List CO)(a:CB):CB:=.seq (.reg l) a
abbrev yQ(l:List CO)(a:CC):CC:=.seq (.reg l) a
abbrev yB(d:Nat)(o:BinOp)(a b:Opd):CO:=.mk (some d) none (.p (.bin o a b))
abbrev yA(d n a b:Nat):CO:=.mk (some d) none (.p (.iaS n (.t a) (.t b)))
abbrev yK(x:Nat)(a b:CC):CC:=.cond (.t x) a b
abbrev yD(c:CO)(i:Nat)(l:List Nat):DO:=.mk c i l [] []
abbrev yLi{α:Type}(o:Option α)(c:α)(_:o=some c:=by conv=>lhs;reduce;simp):α:=c
attribute [simp] yLi
def yLn:CC->List CC->CC×List CC
 |.seq a b,N=>match yLn a N with
  |(a,N)=>match yLn b N with
   |(b,N)=>(.seq a b,N)
 |.cond o a b,N=>match yLn a N with
  |(a,N)=>match yLn b N with
   |(b,N)=>(.cond o a b,N)
 |.block n a,N=>match yLn a N with
  |(a,N)=>(.block n a,N)
 |.scope a,N=>match yLn a N with
  |(a,N)=>(.scope a,N)
 |.loop v a,N=>match yLn a N with
  |(a,[])=>(.loop v a,[])
  |(_,x::N)=>(.loop v x,N)
 |c,N=>(c,N)
def yLb:CC->List CC
 |.seq a b=>yLb a++yLb b
 |.cond _ a b=>yLb a++yLb b
 |.block _ a=>yLb a
 |.scope a=>yLb a
 |.loop _ a=>yLb a++[a]
 |_=>[]
def yLf(N:List CC):Option aK->Option aK
 |some ⟨.code c,r,p,n⟩=>some ⟨.code (yLn c N).1,r,p,n⟩
 |o=>o
def yLg(i:Nat)(N:List CC):Option aK->Option CC
 |some ⟨.code c,_,_,_⟩=>(yLb c)[i]?.map λb=>(yLn b N).1
 |_=>none
def yLs:Nat->CC->CC
 | 0,.seq a _=>a
 |n+1,.seq _ b=>yLs n b
 |_,c=>c
def yLh(i:Nat)(N:List CC):Option aK->Option CC
 |some ⟨.code c,_,_,_⟩=>some (yLn (yLs i c) N).1
 |_=>none
