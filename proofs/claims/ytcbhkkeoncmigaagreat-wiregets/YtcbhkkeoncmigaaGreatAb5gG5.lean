/-
  From the form's reading to the evaluator and back: the start, what holds behind a call that the evaluator knows.
-/
import Derived.Test.YtcbhkkeoncmigaaGreatAb5gT0
import Derived.RowKit
import Derived.RowKit2
import Derived.ChangeShapes
import Derived.ChangeArms
import Derived.ChangeSame
import Derived.ChangeAlike
import Derived.DataReads
import Derived.Below
import Derived.SizedLaws
import Derived.WideShapes
import Derived.WideKeyArgs
import GoSem.ClaimJoined
import Derived.Test.YtcbhkkeoncmigaaGreatAb5gR3
import Derived.Test.YtcbhkkeoncmigaaGreatAb5gT3
import Derived.Test.YtcbhkkeoncmigaaGreatRows
import Derived.Test.YtcbhkkeoncmigaaGreatAb5gS4
import Derived.Test.YtcbhkkeoncmigaaGreatAb5gF20
set_option linter.unusedVariables false
set_option linter.unusedSimpArgs false
namespace Go.Ab
open Go.RowKit Go.WideShapes Go.ChangeShapes
def G0 (w:World):Gm:={ blk:=fun _=>none,len:=fun _=>none,cap:=fun _=>0,imm:=fun b _=>b < w.heap.size }
theorem sim0 (w:World):Sim w (G0 w) [] where
 blk a B e:=by simp [hget] at e
 inj a a' b h:=by simp [dom,hget] at h
 imm b o h:=h
 prv b x h:=by cases h
theorem list_of {α:Type} {Q:Nat→α→Prop}:∀ n:Nat,(∀ i,i < n→∃ a,Q i a)→∃ l:List α,l.length=n∧∀ i a,l[i]?=some a→Q i a
 | 0,_=>⟨[],rfl,fun i a h=>by simp at h⟩
 | n+1,h=>by
  obtain ⟨l,h1,h2⟩:=list_of n fun i hi=>h i (by omega)
  obtain ⟨a,ha⟩:=h n (by omega)
  refine ⟨l++[a],by simp [h1],fun i b hb=>?_⟩
  by_cases hi:i < l.length
  ·rw [List.getElem?_append_left hi] at hb;exact h2 i b hb
  ·have:i=n:=by
    have:=(List.getElem?_eq_some_iff.1 hb).1
    simp at this;omega
   subst this
   rw [←h1] at hb
   simp at hb
   subst hb
   exact ha
theorem cell_block {w:World} {a:Addr} {v:Value} (h:w.cell? a=some v):a.spot=none∧a.block < w.heap.size:=by
 unfold World.cell? at h
 split at h
 ·rename_i c t fr hb
  split at h
  ·cases h
  ·rename_i hs
   exact ⟨by simpa using hs,(Array.getElem?_eq_some_iff.1 hb).1⟩
 ·cases h
theorem calls_true {P:Program} {O:Orc} (hs:FnSound P O) {f:FuncId} {avs:List AV} (he:O.fn f avs []=some (.val (.bool true) [])) {W:World} {args:Array Value}
  (hr:ArgsRel W (G0 W) NoLoc avs args):Calls P f args W fun e W'=>e=.returned (.bool true)∧Below W.heap.size W W':=by
 have h0:ArgsRel W (G0 W) (dom []) avs args:=⟨hr.1,fun i hi=>(hr.2 i hi).mono (ImmKept.refl _ _) fun _ h=>h.elim⟩
 refine ((hs f avs [] _ he).2 W (G0 W) args (sim0 W) h0).mono fun e W' h=>?_
 obtain ⟨G',h1,h2,x,h3,h4⟩:=h
 cases h4
 exact ⟨h3,h2.os,h2.tape,h2.output,h2.size,fun k hk=>h2.heap k hk fun hh=>hh.elim (fun ⟨a,ha,_⟩=>by simp [dom,hget] at ha) fun e=>e rfl⟩
section
variable {H:Type} {enc:TypeId×Value→H} {P:Program}
theorem post_of_below {f:Func} {s:ChangeSpec} {apart fresh handsOn again:Bool} {W W':World} {args:Array Value} {v:Value} {ds gs:List (DataW H)} {before pa pv:List MemPlace}
  (hW:DataW.Whole enc P f.params.toList s.vars apart W args.toList ds gs before)
  (hres:∀ (b:Nat) (sp:Nat→Bool) (hd:Bool),DataW.TrodAll enc P W' b sp hd f.resultTypes.toList (v.resultList f.resultTypes.size) (s.fn H (ds++gs)).results [])
  (hargs:∀ sp:Nat→Bool,(∀ p∈before,sp p.block=true)→DataW.TrodAll enc P W' 0 sp true f.params.toList args.toList (s.fn H (ds++gs)).args pa)
  (hvars:∀ sp:Nat→Bool,(∀ p∈before,sp p.block=true)→DataW.TrodVars enc P W' sp s.vars (s.fn H (ds++gs)).vars pv)
  (hps:before=pa++pv) (hb:Below W.heap.size W W')
  (hok:∀ (j:Nat) (t:TypeId) (r:Value),f.resultTypes[j]?=some t→(v.resultList f.resultTypes.size)[j]?=some r→Value.okWide P W' .any 0 t r) :
  s.post enc P f apart fresh handsOn again W args v W':=by
 have hlt:∀ p∈before,p.block < W.heap.size:=fun p hp=>hW.lt p hp
 have hold:∀ p∈before,(fun b=>decide (b < W.heap.size)) p.block=true:=fun p hp=>by simpa using hlt p hp
 refine ⟨ds,gs,before,[],pa,pv,hW,hres _ _ _,hargs _ hold,hvars _ hold,World.keptBut_mono (fun p hp=>⟨hp,?_⟩) (hb.frame (·∈before)),fun _=>?_⟩
 ·rw [hps,List.mem_append] at hp
  exact Or.inr hp
 ·obtain ⟨_,_,_,_,_,hz,hn⟩:=hW
  refine ⟨hok,_,_,([]++pa)++pv,⟨[]++pa,pv,trodAll_append (hargs _ (fun _ _=>rfl)) (hres _ _ _),hvars _ (fun _ _=>rfl),rfl,?_,?_⟩,?_⟩
  ·intro b off hp
   have hin:MemPlace.cell b off∈before:=by rw [hps];simpa using hp
   rw [hb.frozen (hlt _ hin)]
   exact hz b off hin
  ·intro ha
   have:=hn ha
   rw [hps] at this
   simpa using this
  ·intro p hp _
   rw [hps]
   simpa using hp
theorem trodAll_stays (hl:laidOutB P=true) {base:Nat} {W W':World} {sp':Nat→Bool}:∀ {ts:List TypeId} {vs:List Value} {ds:List (DataW H)} {ps:List MemPlace},
  (∀ t∈ts,P.readableRec t=true∧t < P.types.size)→DataW.TrodAll enc P W base (fun _=>true) true ts vs ds ps→(∀ p∈ps,W.sameAt W' p)→(∀ p∈ps,sp' p.block=true)→DataW.TrodAll enc P W' base sp' true ts vs ds ps
 | [],[],[],_,_,h,_,_=>h
 | t :: _,_ :: _,_ :: _,_,hT,⟨p,q,h1,h2,e⟩,hs,hb=>
  ⟨p,q,WideElems.Trod_stays hl (hT t (by simp)).1 (hT t (by simp)).2 h1 (fun x hx=>hs x (by rw [e];exact List.mem_append_left _ hx)) (fun x hx=>hb x (by rw [e];exact List.mem_append_left _ hx)),
   trodAll_stays hl (fun t ht=>hT t (List.mem_cons.2 (Or.inr ht))) h2 (fun x hx=>hs x (by rw [e];exact List.mem_append_right _ hx)) (fun x hx=>hb x (by rw [e];exact List.mem_append_right _ hx)),e⟩
theorem law_calls {O:Orc} (hs:FnSound P O) {f:FuncId} {fn:Func} {s:ChangeSpec} {apart fresh handsOn again:Bool} (hl:laidOutB P=true) (hp:∀ t∈fn.params.toList,P.readableRec t=true∧t < P.types.size)
  {tb:TypeId} (ht:P.underlying tb=some .bool) (hres:fn.resultTypes=#[tb]) (hvars:s.vars=[]) {W:World} {args:Array Value} {ds gs:List (DataW H)} {before:List MemPlace}
  (hW:DataW.Whole enc P fn.params.toList s.vars apart W args.toList ds gs before)
  (hspec:s.fn H (ds++gs)={ results:=[.lit (.bool true)],args:=ds })
  {avs:List AV} (he:O.fn f avs []=some (.val (.bool true) [])) (hr:ArgsRel W (G0 W) NoLoc avs args) :
  Calls P f args W fun e W'=>∃ v,e=.returned v∧s.post enc P fn apart fresh handsOn again W args v W':=by
 refine (calls_true hs he hr).mono fun e W' ⟨h1,h2⟩=>⟨_,h1,?_⟩
 have hlt:∀ p∈before,p.block < W.heap.size:=fun p hp=>hW.lt p hp
 have hW':=hW
 obtain ⟨p,q,hA,hV,e1,_,_⟩:=hW
 rw [hvars] at hV
 obtain ⟨rfl,rfl⟩:=trodVars_none hV
 simp only [List.append_nil] at e1
 subst e1
 refine post_of_below (pa:=before) (pv:=[]) hW' (fun b sp hd=>?_) (fun sp hsp=>?_) (fun sp hsp=>?_) (by simp) h2 (ok_one hres (by simp [Value.resultList]) (okWide_bool_mk ht true))
 ·rw [hspec,hres]
  exact trodAll_mk1 (shut_bool ht true)
 ·rw [hspec]
  exact trodAll_stays hl hp hA (fun p hp=>h2.same (hlt p hp)) hsp
 ·rw [hspec,hvars]
  rfl
end
end Go.Ab
/-
  The form's reading of an argument of any type made of bools, ints, strings, slices and structs, as a value of the evaluator's.
-/
namespace Go.Ab
def slv (nl:Bool):List AV→AV
 | []=>if nl then .nils else .lst []
 | e :: r=>.lst (e :: r)
theorem slv_cells (nl:Bool) (es:List AV):(slv nl es).cells=[slv nl es]:=by cases es<;>cases nl<;>rfl
theorem slv_agg (nl:Bool) (es:List AV):(slv nl es).isAgg=false:=by cases es<;>cases nl<;>rfl
inductive TT where
 | bool
 | int (k:IntKind)
 | str
 | slice (t:TT)
 | struct (fs:List TT)
def TT.agg:TT→Bool
 | .struct _=>true
 | _=>false
mutual
def TT.size:TT→Nat
 | .struct fs=>TT.sizes fs
 | .bool=>1
 | .int _=>1
 | .str=>1
 | .slice _=>1
def TT.sizes:List TT→Nat
 | []=>0
 | t :: r=>t.size+TT.sizes r
end
mutual
def TT.ok (P:Program):TT→TypeId→Bool
 | .bool,t=>match P.underlying t with
  | some .bool=>true
  | _=>false
 | .int k,t=>match P.underlying t with
  | some (.int k')=>decide (k'=k)
  | _=>false
 | .str,t=>match P.underlying t with
  | some .string=>true
  | _=>false
 | .slice e,t=>match P.underlying t with
  | some (.slice u)=>e.ok P u && (decide (P.cellsOf u=e.size) && (decide (0 < e.size) && decide (0 < P.bytesOf u)))
  | _=>false
 | .struct fs,t=>match P.underlying t with
  | some (.struct fl)=>TT.oks P fs fl.toList 0 && decide (P.cellsOf t=TT.sizes fs)
  | _=>false
def TT.oks (P:Program):List TT→List Field→Nat→Bool
 | [],[],_=>true
 | t :: r,f :: fl,o=>decide (f.offset=o) && (t.ok P f.type && (decide (P.cellsOf f.type=t.size) && TT.oks P r fl (o+t.size)))
 | [],_ :: _,_=>false
 | _ :: _,[],_=>false
end
mutual
def TT.Has:TT→List AV→Prop
 | .bool,cs=>∃ b,cs=[.bool b]
 | .int k,cs=>∃ n,cs=[.int k n]∧(Lit.int k n).wf=true
 | .str,cs=>∃ s,cs=[.str s]∧s.length≤140737488355328
 | .slice e,cs=>∃ nl es,cs=[slv nl es]∧es.length≤140737488355328∧∀ v∈es,v.isAgg=e.agg∧TT.Has e v.cells
 | .struct fs,cs=>TT.Hass fs cs
def TT.Hass:List TT→List AV→Prop
 | [],cs=>cs=[]
 | t :: r,cs=>∃ a b,cs=a++b∧TT.Has t a∧TT.Hass r b
end
def IsT (w:World) (avs:List AV) (cs:List Value) (n:Nat):Prop:=
 avs.length=n∧cs.length=n∧∀ j,j < n→(cs.getD j undef).oneCell'=true∧VRel w (G0 w) NoLoc (avs.getD j .top) (cs.getD j undef)
theorem isT_one {w:World} {a:AV} {c:Value} (h1:c.oneCell'=true) (h2:VRel w (G0 w) NoLoc a c):IsT w [a] [c] 1:=⟨rfl,rfl,fun j hj=>by
 have:j=0:=by omega
 subst this
 exact ⟨h1,h2⟩⟩
def TT.of (t:TT) (cs:List AV):AV:=if t.agg then .agg cs else cs.getD 0 .top
theorem TT.of_cells {t:TT} {cs:List AV} (h:t.Has cs):(t.of cs).cells=cs∧(t.of cs).isAgg=t.agg:=by
 cases t with
 | bool=>obtain ⟨b,rfl⟩:=h;exact ⟨rfl,rfl⟩
 | int k=>obtain ⟨n,rfl,_⟩:=h;exact ⟨rfl,rfl⟩
 | str=>obtain ⟨s,rfl,_⟩:=h;exact ⟨rfl,rfl⟩
 | slice e=>
  obtain ⟨nl,es,rfl,_⟩:=h
  exact ⟨by simp [TT.of,TT.agg,slv_cells],by simp [TT.of,TT.agg,slv_agg]⟩
 | struct fs=>exact ⟨rfl,rfl⟩
section
variable {P:Program}
theorem weightsAll_mem' {H:Type} {e:TypeId} {es:List (DataW H×List MemPlace)} {i n:Nat} (hi:i < es.length) (hn:n∈DataW.weights P e es[i].1):n∈DataW.weightsAll P e (es.map (·.1)):=by
 induction es generalizing i with
 | nil=>simp at hi
 | cons e es ih=>
  simp only [List.map_cons,DataW.weightsAll,List.mem_append]
  cases i with
  | zero=>exact .inl hn
  | succ i=>exact .inr (ih (by simpa using hi) hn)
variable {H:Type} {enc:TypeId×Value→H} {w:World} {base:Nat} {spare:Nat→Bool} {held:Bool}
theorem read_slice {e:TT} {t u:TypeId} {n:Nat} {cs:List Value} {y:DataW H×List MemPlace} (hu:P.underlying t=some (.slice u)) (hc:P.cellsOf u=e.size) (h0:0 < e.size) (hb0:0 < P.bytesOf u)
  (ih:∀ m,m < n→∀ (cs:List Value) (x:DataW H×List MemPlace),DataW.trod enc P w base spare held m u cs=some x→(∀ n∈x.1.weights P u,n≤reachBytes)→∃ avs,e.Has avs∧IsT w avs cs e.size)
  (h:DataW.trod enc P w base spare held n t cs=some y) (hw:∀ n∈y.1.weights P t,n≤reachBytes):∃ avs,(TT.slice e).Has avs∧IsT w avs cs 1:=by
 have rb:reachBytes≤140737488355328:=by decide
 rcases DataW.trod_slice hu h with ⟨rfl,_⟩ | ⟨a,len,cap,elems,rest,m,rfl,rfl,rfl,hb,hle,hcap,hel,hget,_⟩
 ·exact ⟨[slv true []],⟨true,[],rfl,by simp,by simp⟩,isT_one rfl (.nils _)⟩
 ·have hS:DataW.weights P t (.slice (elems.map (·.1)) (rest.map (·.1)))=(elems.length+rest.length) * P.bytesOf u :: (DataW.weightsAll P u (elems.map (·.1))++DataW.weightsAll P u (rest.map (·.1))):=by
   simp [DataW.weights,hu]
  have hW:∀ n∈DataW.weights P t (.slice (elems.map (·.1)) (rest.map (·.1))),n≤reachBytes:=hw
  rw [hS] at hW
  have hlen:(elems.length+rest.length) * P.bytesOf u≤reachBytes:=hW _ (by simp)
  have hlen2:elems.length≤140737488355328:=by
   have:=Nat.le_mul_of_pos_right (elems.length+rest.length) hb0
   omega
  have hall:∀ n∈DataW.weightsAll P u (elems.map (·.1)),n≤reachBytes:=fun n hn=>hW n (by simp [hn])
  have each:∀ i,i < len→∃ av:List AV,∃ cs',w.cells? base (a.add (i * e.size)) e.size=some cs'∧e.Has av∧IsT w av cs' e.size:=fun i hi=>by
   have h1:=hget i hi
   rw [hc] at h1
   have hi':i < elems.length:=by omega
   rw [List.getElem?_eq_getElem hi'] at h1
   obtain ⟨cs',h2,h3⟩:=Option.bind_eq_some_iff.1 h1
   obtain ⟨av,h4,h5⟩:=ih m (by omega) cs' _ h3 fun n hn=>hall n (weightsAll_mem' hi' hn)
   exact ⟨av,cs',h2,h4,h5⟩
  obtain ⟨l,hl1,hl2⟩:=list_of len each
  have hmem:∀ v∈l.map e.of,v.isAgg=e.agg∧e.Has v.cells:=fun v hv=>by
   obtain ⟨av,hav,rfl⟩:=List.mem_map.1 hv
   obtain ⟨i,hi⟩:=List.getElem?_of_mem hav
   obtain ⟨_,_,h4,_⟩:=hl2 i av hi
   obtain ⟨k1,k2⟩:=TT.of_cells h4
   exact ⟨k2,by rw [k1];exact h4⟩
  refine ⟨[slv false (l.map e.of)],⟨false,l.map e.of,rfl,by simp;omega,hmem⟩,isT_one rfl ?_⟩
  cases len with
  | zero=>
   have:l=[]:=List.eq_nil_of_length_eq_zero hl1
   subst this
   exact .lst0 _ _ _
  | succ len=>
   have hne:slv false (l.map e.of)=.lst (l.map e.of):=by cases l with
    | nil=>simp at hl1
    | cons _ _=>rfl
   rw [hne]
   have hlen2:(l.map e.of).length=len+1:=by simp [hl1]
   have cell:∀ i,i < len+1→∃ av cs',l[i]?=some av∧cs'.length=e.size∧(∀ j,j < e.size→w.cell? ((a.add (i * e.size)).add j)=cs'[j]?)∧e.Has av∧IsT w av cs' e.size:=fun i hi=>by
    obtain ⟨av,hit⟩:∃ av,l[i]?=some av:=⟨_,List.getElem?_eq_getElem (by omega)⟩
    obtain ⟨cs',h1,h2,h5⟩:=hl2 i av hit
    obtain ⟨_,h3,h4⟩:=World.cells?_some h1
    exact ⟨av,cs',hit,h3,h4,h2,h5⟩
   have spot:a.spot=none:=by
    obtain ⟨av,cs',_,h3,h4,_⟩:=cell 0 (by omega)
    have:=h4 0 h0
    rw [List.getElem?_eq_getElem (by omega)] at this
    have:=(cell_block this).1
    simpa [Addr.add] using this
   obtain ⟨b,off,sp⟩:=a
   simp only at spot
   subst spot
   have addr:∀ i j,((⟨b,off,none⟩:Addr).add (i * e.size)).add j=⟨b,off+i * e.size+j,none⟩:=fun i j=>by
    unfold Addr.add
    split<;>split<;>simp_all
   have got:∀ i j,i < len+1→j < e.size→∃ v av,w.cell? ⟨b,off+i * e.size+j,none⟩=some v∧l[i]?=some av∧e.Has av∧av.length=e.size∧v.oneCell'=true∧VRel w (G0 w) NoLoc (av.getD j .top) v:=fun i j hi hj=>by
    obtain ⟨av,cs',hit,h3,h4,h5,h7⟩:=cell i hi
    have h6:=h4 j hj
    rw [addr] at h6
    have h9:cs'[j]?=some (cs'.getD j undef):=by
     have:j < cs'.length:=by omega
     simp [List.getD_eq_getElem?_getD,this]
    rw [h9] at h6
    exact ⟨_,av,h6,hit,h5,h7.1,(h7.2.2 j hj).1,(h7.2.2 j hj).2⟩
   have at_:∀ i av,l[i]?=some av→e.Has av→((l.map e.of).getD i .top).cells=av:=fun i av hi ha=>by
    rw [List.getD_eq_getElem?_getD,List.getElem?_map,hi]
    exact (TT.of_cells ha).1
   rw [←hlen2]
   refine VRel.lst _ (l.map e.of) b off cap e.size (fun i j=>(w.cell? ⟨b,off+i * e.size+j,none⟩).getD undef) (by omega) (fun i hi=>?_) (fun i j hi hj=>?_) (fun i j hi hj=>?_)
   ·obtain ⟨v,av,_,h2,h3,h4,_⟩:=got i 0 (by omega) h0
    rw [at_ i av h2 h3];exact h4
   ·obtain ⟨v,av,h1,h2,h3,h4,h5,h6⟩:=got i j (by omega) hj
    rw [h1]
    exact ⟨rfl,(cell_block h1).2,h5⟩
   ·obtain ⟨v,av,h1,h2,h3,h4,h5,h6⟩:=got i j (by omega) hj
    rw [at_ i av h2 h3]
    simp only [h1]
    exact h6
theorem read_fields {n:Nat} {cs:List Value}
  (ih:∀ (tt:TT) (t:TypeId) (cs:List Value) (x:DataW H×List MemPlace),tt.ok P t=true→P.cellsOf t=tt.size→DataW.trod enc P w base spare held n t cs=some x→(∀ n∈x.1.weights P t,n≤reachBytes)→∃ avs,tt.Has avs∧IsT w avs cs tt.size) :
  ∀ (fs:List TT) (fl:List Field) (o:Nat) (xs:List (DataW H×List MemPlace)),TT.oks P fs fl o=true→xs.length=fl.length →
   (∀ (i:Nat) (f:Field),fl[i]?=some f→DataW.trod enc P w base spare held n f.type ((cs.drop f.offset).take (P.cellsOf f.type))=xs[i]?) →
   (∀ n∈DataW.weightsEach P (fl.map (·.type)) (xs.map (·.1)),n≤reachBytes)→o+TT.sizes fs≤cs.length →
   ∃ avs,TT.Hass fs avs∧avs.length=TT.sizes fs∧∀ j,j < TT.sizes fs→(cs.getD (o+j) undef).oneCell'=true∧VRel w (G0 w) NoLoc (avs.getD j .top) (cs.getD (o+j) undef)
 | [],[],o,xs,hok,hx,hf,hw,ho=>⟨[],rfl,rfl,fun j hj=>by simp [TT.sizes] at hj⟩
 | t :: r,f :: fl,o,[],hok,hx,hf,hw,ho=>by simp at hx
 | t :: r,f :: fl,o,x :: xs,hok,hx,hf,hw,ho=>by
  simp only [TT.oks,Bool.and_eq_true,decide_eq_true_eq] at hok
  obtain ⟨h1,h2,h3,h4⟩:=hok
  simp only [TT.sizes] at ho ⊢
  have f0:=hf 0 f rfl
  rw [h1,h3] at f0
  obtain ⟨a,a1,a2,a3,a4⟩:=ih t f.type _ x h2 h3 (by simpa using f0) fun n hn=>hw n (by simp [DataW.weightsEach,hn])
  obtain ⟨b,b1,b2,b3⟩:=read_fields ih r fl (o+t.size) xs h4 (by simpa using hx) (fun i g hg=>by simpa using hf (i+1) g (by simpa using hg))
   (fun n hn=>hw n (by simp [DataW.weightsEach,hn])) (by omega)
  refine ⟨a++b,⟨a,b,rfl,a1,b1⟩,by simp [a2,b2],fun j hj=>?_⟩
  by_cases hjt:j < t.size
  ·have:=a4 j hjt
   have e1:((cs.drop o).take t.size).getD j undef=cs.getD (o+j) undef:=by
    simp [List.getD_eq_getElem?_getD,List.getElem?_take,hjt]
   have e2:(a++b).getD j .top=a.getD j .top:=by
    simp [List.getD_eq_getElem?_getD,List.getElem?_append_left (show j < a.length by omega)]
   rw [e1] at this
   rw [e2]
   exact this
  ·have:=b3 (j - t.size) (by omega)
   have e1:o+t.size+(j - t.size)=o+j:=by omega
   have e2:(a++b).getD j .top=b.getD (j - t.size) .top:=by
    rw [List.getD_eq_getElem?_getD,List.getElem?_append_right (by omega),a2,List.getD_eq_getElem?_getD]
   rw [e1] at this
   rw [e2]
   exact this
 | [],_ :: _,o,xs,hok,hx,hf,hw,ho=>by simp [TT.oks] at hok
 | _ :: _,[],o,xs,hok,hx,hf,hw,ho=>by simp [TT.oks] at hok
theorem read_tt:∀ (fuel:Nat) (tt:TT) (t:TypeId) (cs:List Value) (x:DataW H×List MemPlace),tt.ok P t=true→DataW.trod enc P w base spare held fuel t cs=some x→(∀ n∈x.1.weights P t,n≤reachBytes) →
  ∃ avs,tt.Has avs∧IsT w avs cs tt.size:=by
 have rb:reachBytes≤140737488355328:=by decide
 intro fuel
 induction fuel using Nat.strongRecOn with
 | ind fuel ih=>
  intro tt t cs x hok h hw
  cases tt with
  | bool=>
   simp only [TT.ok] at hok
   split at hok
   ·rename_i hu
    obtain ⟨b,rfl,rfl⟩:=DataW.trod_bool hu h
    exact ⟨[.bool b],⟨b,rfl⟩,isT_one rfl (.bool _ _)⟩
   ·cases hok
  | int k=>
   simp only [TT.ok] at hok
   split at hok
   ·rename_i k' hu
    simp only [decide_eq_true_eq] at hok
    subst hok
    obtain ⟨n,rfl,rfl,hwf⟩:=DataW.trod_int hu h
    exact ⟨[.int k' n],⟨n,rfl,hwf⟩,isT_one rfl (.int _ _ _)⟩
   ·cases hok
  | str=>
   simp only [TT.ok] at hok
   split at hok
   ·rename_i hu
    obtain ⟨s,rfl,rfl,_⟩:=DataW.trod_string hu h
    have:=hw s.data.toList.length (by simp [DataW.weights])
    exact ⟨[.str s.data.toList],⟨s.data.toList,rfl,by omega⟩,isT_one rfl (.str _ s.data.toList)⟩
   ·cases hok
  | slice e=>
   simp only [TT.ok] at hok
   split at hok
   ·rename_i u hu
    simp only [Bool.and_eq_true,decide_eq_true_eq] at hok
    exact read_slice hu hok.2.1 hok.2.2.1 hok.2.2.2 (fun m hm cs x h1 h2=>ih m hm e u cs x hok.1 h1 h2) h hw
   ·cases hok
  | struct fs=>
   simp only [TT.ok] at hok
   split at hok
   ·rename_i fl hu
    simp only [Bool.and_eq_true,decide_eq_true_eq] at hok
    obtain ⟨xs,n,rfl,rfl,hl,hlen,hf⟩:=DataW.trod_struct hu h
    rw [hok.2] at hl
    have hw2:∀ n∈DataW.weights P t (.agg (xs.map (·.1))),n≤reachBytes:=hw
    have hE:DataW.weights P t (.agg (xs.map (·.1)))=DataW.weightsEach P (fl.toList.map (·.type)) (xs.map (·.1)):=by simp [DataW.weights,hu]
    rw [hE] at hw2
    obtain ⟨avs,a1,a2,a3⟩:=read_fields (fun tt t cs x h1 _ h2 h3=>ih n (by omega) tt t cs x h1 h2 h3) fs fl.toList 0 xs hok.1 (by simpa using hlen) (fun i f hi=>hf i f (by simpa using hi)) hw2 (by omega)
    exact ⟨avs,a1,a2,hl,fun j hj=>by simpa using a3 j hj⟩
   ·cases hok
theorem arg_tt (tt:TT) {t:TypeId} {v:Value} {d:DataW H} {ps:List MemPlace} {b:Nat} (hok:tt.ok P t=true) (hs:tt.agg=true→∃ cs,v=.agg cs) (hs2:tt.agg=false→v.oneCell'=true)
  (h:DataW.Trod enc P w b spare held t v d ps) (hz:∀ n∈d.weights P t,n≤reachBytes):∃ av:AV,tt.Has av.cells∧av.isAgg=tt.agg∧VRel w (G0 w) NoLoc av v:=by
 obtain ⟨fuel,hf⟩:=h
 obtain ⟨avs,h1,h2,h3,h4⟩:=read_tt fuel tt t _ _ hok hf hz
 obtain ⟨k1,k2⟩:=TT.of_cells h1
 refine ⟨tt.of avs,by rw [k1];exact h1,k2,?_⟩
 cases ha:tt.agg with
 | true=>
  obtain ⟨cs,rfl⟩:=hs ha
  simp only [Value.cells] at h3 h4
  have h5:∀ j,j < avs.length→(cs.getD j undef).oneCell'=true∧VRel w (G0 w) NoLoc (avs.getD j .top) (cs.getD j undef):=fun j hj=>by
   have:=h4 j (by omega)
   simpa [List.getD_eq_getElem?_getD,Array.getD_eq_getD_getElem?] using this
  have e:tt.of avs=.agg avs:=by simp [TT.of,ha]
  rw [e]
  exact .agg _ _ _ (by rw [h2];simpa using h3) (fun i hi=>(h5 i hi).1) (fun i hi=>(h5 i hi).2)
 | false=>
  have e:tt.of avs=avs.getD 0 .top:=by simp [TT.of,ha]
  have hc:v.cells=#[v]:=by
   have:=hs2 ha
   cases v<;>simp_all [Value.cells,Value.oneCell']
  rw [hc] at h3 h4
  simp at h3
  have:=(h4 0 (by omega)).2
  rw [e]
  simpa using this
theorem shape_of {tt:TT} {t:TypeId} {v:Value} {base0:Nat} (hok:tt.ok P t=true) (hv:Value.okWide P w .any base0 t v):(tt.agg=true→∃ cs,v=.agg cs)∧(tt.agg=false→v.oneCell'=true):=by
 cases tt with
 | bool=>
  refine ⟨fun e=>absurd e (by simp [TT.agg]),fun _=>?_⟩
  simp only [TT.ok] at hok
  split at hok
  ·rename_i hu
   obtain ⟨b,rfl⟩:=WideShapes.okWide_bool hu hv
   rfl
  ·cases hok
 | int k=>
  refine ⟨fun e=>absurd e (by simp [TT.agg]),fun _=>?_⟩
  simp only [TT.ok] at hok
  split at hok
  ·rename_i hu
   obtain ⟨b,rfl⟩:=WideShapes.okWide_int hu hv
   rfl
  ·cases hok
 | str=>
  refine ⟨fun e=>absurd e (by simp [TT.agg]),fun _=>?_⟩
  simp only [TT.ok] at hok
  split at hok
  ·rename_i hu
   obtain ⟨b,rfl⟩:=WideShapes.okWide_string hu hv
   rfl
  ·cases hok
 | slice e=>
  refine ⟨fun e=>absurd e (by simp [TT.agg]),fun _=>?_⟩
  simp only [TT.ok] at hok
  split at hok
  ·rename_i hu
   obtain ⟨a,l,c,rfl⟩:=WideShapes.okWide_slice hu hv
   rfl
  ·cases hok
 | struct fs=>
  refine ⟨fun _=>?_,fun e=>absurd e (by simp [TT.agg])⟩
  simp only [TT.ok] at hok
  split at hok
  ·rename_i hu
   obtain ⟨cs,rfl,_⟩:=WideShapes.okWide_struct hu hv
   exact ⟨_,rfl⟩
  ·cases hok
theorem arg_of (tt:TT) {t:TypeId} {v:Value} {d:DataW H} {ps:List MemPlace} {b base0:Nat} (hok:tt.ok P t=true) (hv:Value.okWide P w .any base0 t v)
  (h:DataW.Trod enc P w b spare held t v d ps) (hz:∀ n∈d.weights P t,n≤reachBytes):∃ av:AV,tt.Has av.cells∧av.isAgg=tt.agg∧VRel w (G0 w) NoLoc av v:=
 arg_tt tt hok (shape_of hok hv).1 (shape_of hok hv).2 h hz
/- What has a shape. -/
theorem of_one {v c:AV} (h:v.isAgg=false) (hc:v.cells=[c]):v=c:=by cases v<;>simp_all [AV.cells,AV.isAgg]
theorem has_str {v:AV} (h1:v.isAgg=TT.str.agg) (h2:TT.str.Has v.cells):∃ s:List UInt8,v=.str s∧s.length≤140737488355328:=by
 obtain ⟨s,hs,hl⟩:=h2
 exact ⟨s,of_one h1 hs,hl⟩
end
end Go.Ab
/-
  The form's reading of messages, as values of the evaluator's.
-/
namespace Go.Ab.WireG
open Go.Proofs Go.ChangeMaps Go.ChangeShapes Go.WideShapes Go.RowKit
set_option maxRecDepth 100000
def Rd {α:Type} (tt:TT) (av:α→AV):Prop:=∀ v:AV,v.isAgg=tt.agg→tt.Has v.cells→∃ x,v=av x
theorem rd_str:Rd .str AV.str:=fun v h1 h2=>by
 obtain ⟨s,e,_⟩:=has_str h1 h2
 exact ⟨s,e⟩
section
variable {H:Type} {enc:TypeId×Value→H} {W:World} {base b:Nat} {sp:Nat→Bool} {hd:Bool} {v:Value} {d:DataW H} {ps:List MemPlace}
theorem arg_str (hv:Value.okWide Tryz.prog W .any base 9 v) (h:DataW.Trod enc Tryz.prog W b sp hd 9 v d ps) (hz:∀ n∈d.weights Tryz.prog 9,n≤reachBytes):∃ x:List UInt8,VRel W (G0 W) NoLoc (.str x) v:=by
 obtain ⟨av,h1,h2,h3⟩:=arg_of .str (by kernel_rfl) hv h hz
 obtain ⟨x,rfl⟩:=rd_str av h2 h1
 exact ⟨x,h3⟩
end
end Go.Ab.WireG
/-
  Readings: the mark that a number is too large is handed through.
-/
set_option linter.unusedSectionVars false
namespace Go.Ab.WireG
set_option maxRecDepth 100000
def OrI {α:Type} (ip:IP α):Prop:=∀ i b,ip i b=(ip i false).map fun y=>(y.1,b || y.2)
def OrS {α:Type} (sp:SP α):Prop:=∀ l b,sp l b=(sp l false).map fun y=>(y.1,y.2.1,b || y.2.2)
theorem or_nat:OrI iNat:=fun i b=>by unfold iNat;split<;>simp
theorem or_text:OrI iText:=fun i b=>by unfold iText;split<;>simp
theorem or_num:OrI iNum:=fun i b=>by unfold iNum;split<;>simp
theorem or_int:OrI iInt:=fun i b=>by unfold iInt;split<;>(try split)<;>simp
theorem or_one {α:Type} {ip:IP α} (H:OrI ip):OrS (one ip):=fun l b=>by
 cases l with
 | nil=>rfl
 | cons i r=>
  simp only [one]
  rw [H i b]
  cases ip i false<;>rfl
theorem or_map {α β:Type} {f:α→β} {ip:IP α} (H:OrI ip):OrI (iMap f ip):=fun i b=>by
 simp only [iMap]
 rw [H i b]
 cases ip i false<;>rfl
theorem or_items {α:Type} {ip:IP α} (H:OrI ip):∀ (l:List It) (b:Bool),mItems ip l b=(mItems ip l false).map fun y=>(y.1,b || y.2)
 | [],b=>by simp [mItems]
 | i :: r,b=>by
  simp only [mItems]
  rw [H i b]
  cases ip i false with
  | none=>rfl
  | some y=>
   obtain ⟨x,o⟩:=y
   simp only [Option.map_some]
   rw [or_items H r (b || o),or_items H r o]
   cases mItems ip r false with
   | none=>rfl
   | some z=>simp [Bool.or_assoc]
theorem or_all {α:Type} {ip:IP α} (H:OrI ip):OrS (sAll ip):=fun l b=>by
 simp only [sAll]
 rw [or_items H l b]
 cases mItems ip l false<;>rfl
theorem or_inner {α:Type} {sp:SP α} (H:OrS sp):OrI (iInner sp):=fun i b=>by
 simp only [iInner]
 split
 ·rw [H i.ll b]
  cases sp i.ll false with
  | none=>rfl
  | some y=>
   obtain ⟨x,r,o⟩:=y
   cases r<;>rfl
 ·rfl
theorem or_sl {α:Type} {ip:IP α} (H:OrI ip):OrI (iSl ip):=or_map (or_inner (or_all H))
theorem or_bind {α β:Type} {s:SP α} {k:α→SP β} (H:OrS s) (Hk:∀ x,OrS (k x)):OrS (sBind s k):=fun l b=>by
 simp only [sBind]
 rw [H l b]
 cases s l false with
 | none=>rfl
 | some y=>
  obtain ⟨x,r,o⟩:=y
  simp only [Option.map_some]
  rw [Hk x r (b || o),Hk x r o]
  cases k x r false with
  | none=>rfl
  | some z=>simp [Bool.or_assoc]
theorem or_ret {α:Type} (x:α):OrS (sRet x):=fun l b=>by simp [sRet]
theorem or_Ns:OrI iNs:=or_sl or_nat
theorem or_Is:OrI iIs:=or_sl or_int
theorem or_Iss:OrI iIss:=or_sl or_Is
theorem or_sPf:OrS sPf:=or_bind (or_one or_nat) fun _=>or_bind (or_one or_Is) fun _=>or_bind (or_one or_Ns) fun _=>or_bind (or_one or_Iss) fun _=>or_ret _
theorem or_sSh:OrS sSh:=or_bind (or_one or_text) fun _=>or_bind (or_one or_num) fun _=>or_bind (or_one or_nat) fun _=>or_bind (or_one or_nat) fun _=>or_bind (or_one or_Ns) fun _=>or_ret _
theorem or_Sh:OrI iSh:=or_inner or_sSh
theorem sg_list (i:It) (b:Bool):iSg i b=match iInner (sAll iNat) i b with
  | some ([x,y,z],o)=>some (⟨x,y,z⟩,o)
  | _=>none:=by
 obtain ⟨k,n,t,nl,l⟩:=i
 simp only [iInner,It.k,It.ll]
 by_cases hk:k=2
 ·simp only [hk,if_true,sSg,sBind,sRet,sAll]
  rcases l with _ | ⟨a,_ | ⟨c,_ | ⟨d,_ | ⟨e,l⟩⟩⟩⟩<;>simp only [one,mItems,iNat]
  all_goals (try (by_cases h1:a.k=0<;>simp [h1]))
  all_goals (try (by_cases h2:c.k=0<;>simp [h2]))
  all_goals (try (by_cases h3:d.k=0<;>simp [h3]))
  all_goals (try (by_cases h4:e.k=0<;>simp [h4]))
  all_goals (try (cases hm:mItems iNat l b<;>simp [hm]))
 ·simp [hk]
theorem p2_list (i:It) (b:Bool):iP2 i b=match iInner (sAll iNat) i b with
  | some ([x,y],o)=>some (⟨x,y⟩,o)
  | _=>none:=by
 obtain ⟨k,n,t,nl,l⟩:=i
 simp only [iInner,It.k,It.ll]
 by_cases hk:k=2
 ·simp only [hk,if_true,sP2,sBind,sRet,sAll]
  rcases l with _ | ⟨a,_ | ⟨c,_ | ⟨d,l⟩⟩⟩<;>simp only [one,mItems,iNat]
  all_goals (try (by_cases h1:a.k=0<;>simp [h1]))
  all_goals (try (by_cases h2:c.k=0<;>simp [h2]))
  all_goals (try (by_cases h3:d.k=0<;>simp [h3]))
  all_goals (try (cases hm:mItems iNat l b<;>simp [hm]))
 ·simp [hk]
end Go.Ab.WireG
/-
  The reference's reader: items, numbers, strings, ints;a list within;how the reading ends.
-/
namespace Go.Ab.WireG
set_option maxRecDepth 100000
set_option maxHeartbeats 1000000
abbrev RX (nl:Bool) (L:List It) (n:Nat) (bad out:Bool):Blk:=.box 136 false (.agg [lv nl (It.avs L),.int .i64 (n:Int),.bool bad,.bool out])
abbrev zI0:It:=.mk 0 [] [] true []
theorem len_wt:∀ l:List It,l.length≤wts l
 | []=>by simp [wts]
 | i :: r=>by
  have:=len_wt r
  cases i
  simp only [wts,wt,List.length_cons]
  omega
theorem f158l:∀ (s pre:List UInt8) (n:Nat) (h:Heap),(pre++s).length≤8→n < 256 ^ pre.length →
  ∃ env,(mu K).code (.loopAt 0 [0,3,4] l158_0) { env:=[(0,.str (pre++s)),(3,.int .u64 (n:Int)),(4,.int .i64 (pre.length:Int))],h:=[] :: h }=some (.exit 0,⟨env,[] :: h⟩)∧get env 3=.int .u64 (natV s n:Int)
 | [],pre,n,h,hs,hn=>by
  rw [loop_go]
  generalize (mu K).code (CC.loopAt 0 [0,3,4] l158_0)=F
  simp [l158_0,natV]
 | b :: s,pre,n,h,hs,hn=>by
  have hlen:pre.length+(s.length+1)≤8:=by simpa using hs
  have bl:b.toNat < 256:=b.toNat_lt
  have hp7:256 ^ pre.length≤256 ^ 7:=Nat.pow_le_pow_right (by omega) (by omega)
  have h7:256 ^ 7=72057594037927936:=by decide
  have ih:=f158l s (pre++[b]) (n * 256+b.toNat) h (by simpa using hs) (by simp only [List.length_append,List.length_singleton,Nat.pow_succ];omega)
  have h1:(pre.length:Int) < (pre.length:Int)+((s.length:Int)+1):=by omega
  have w1:IntKind.i64.wrap ((pre.length:Int)+1)=(pre.length:Int)+1:=wrap64 (by omega) (by omega)
  have w2:IntKind.u64.wrap ((n:Int) * 256)=(n:Int) * 256:=wrapU64 (by omega) (by omega)
  have w3:IntKind.u64.wrap (b.toNat:Int)=(b.toNat:Int):=wrapU64 (by omega) (by omega)
  have w4:IntKind.u64.wrap ((n:Int) * 256+(b.toNat:Int))=(n:Int) * 256+(b.toNat:Int):=wrapU64 (by omega) (by omega)
  have hg:(pre++b :: s)[pre.length]?=some b:=by simp
  have hl:(pre++b :: s).length=pre.length+(s.length+1):=by simp
  rw [loop_go]
  generalize (mu K).code (CC.loopAt 0 [0,3,4] l158_0)=F at ih ⊢
  simp only [List.append_assoc,List.singleton_append,List.length_append,List.length_singleton,List.length_cons,Int.natCast_add,Int.natCast_one,Int.natCast_mul] at ih
  generalize hX:pre++b :: s=X at *
  have hg2:∀ hh:pre.length < X.length,X[pre.length]'hh=b:=fun hh=>(List.getElem?_eq_some_iff.1 hg).2
  simp [l158_0,hl,hg2,h1,w1,w2,w3,w4,natV]
  simpa using ih
theorem f158 (s:List UInt8) (hs:s.length≤8) (h:Heap):(mu K).fn 158 [.str s] h=some (.val (.int .u64 (natV s 0:Int)) h):=by
 obtain ⟨env,h1,h2⟩:=f158l s [] 0 h (by simpa using hs) (by simp)
 simp only [List.nil_append,List.length_nil,Int.natCast_zero] at h1
 rw [fn_go (KX _ _ _) fn158 rfl (by simp [c158])]
 simp [c158,KL,h1,h2]
theorem f109 (s:List UInt8) (h:Heap):(mu K).fn 109 [.str s] h=some (.val (.tup [.int .u64 ((smallN s).1:Int),.bool (smallN s).2]) h):=by
 have h61:=fun h=>f150 s h
 rw [fn_go (KX _ _ _) fn109 rfl (by simp [c109])]
 unfold smallN
 by_cases hc:canon s=true
 ·by_cases h8:s.length≤8
  ·have h1:=fun h=>f158 s h8 h
   have h3:¬ (8:Int) < (s.length:Int):=by omega
   simp [c109,KL,h61,hc,h8,h3,h1]
  ·have h3:(8:Int) < (s.length:Int):=by omega
   simp [c109,KL,h61,hc,h8,h3]
 ·simp [c109,KL,h61,hc]
theorem f108 (k:Int) (nl:Bool) (L pre l:List It) (hL:L=pre++l) (bad out:Bool) (h:Heap) (a:Loc) (ha:dom h a) (hw:wts L≤1000000) :
  (mu K).fn 108 [.ptr a 0,.int .i64 k] (hset h a (RX nl L pre.length bad out))=match rItem k l with
   | some (i,r)=>some (.val i.av (hset h a (RX nl L (pre.length+1) bad out)))
   | none=>some (.val zI0.av (hset h a (RX nl L pre.length true out))):=by
 have hl:=ne_len ha
 have hg:=fun B=>get_hset ha B
 have hlen:=len_wt L
 have t0:lv true []=AV.nils:=rfl
 have hln:L.length=pre.length+l.length:=by rw [hL];simp
 rw [fn_go (KX _ _ _) fn108 rfl (by simp [c108])]
 cases l with
 | nil=>
  have e:L=pre:=by simpa using hL
  subst e
  simp [c108,hl,hg,hset_hset,RX,It.av,It.avs,rItem,t0]
 | cons i r=>
  have hne:It.avs L≠[]:=by rw [hL,avs_map];simp
  have hz:=avs_sized L
  have hgA:∀ hh,(It.avs L)[pre.length]'hh=i.av:=fun hh=>by
   have:(It.avs L)[pre.length]?=some i.av:=by rw [hL,avs_map];simp
   exact (List.getElem?_eq_some_iff.1 this).2
  have hlA:(It.avs L).length=pre.length+(r.length+1):=by rw [avs_length,hL];simp
  have h1:¬ (pre.length:Int)+((r.length:Int)+1)≤(pre.length:Int):=by omega
  have w1:IntKind.i64.wrap ((pre.length:Int)+1)=(pre.length:Int)+1:=wrap64 (by omega) (by omega)
  have w2:IntKind.i64.wrap (pre.length:Int)=(pre.length:Int):=wrap64 (by omega) (by omega)
  have q1:=lv_lst nl hne
  simp only [RX]
  rw [q1]
  generalize It.avs L=X at *
  obtain ⟨kk,n,t,nli,ll⟩:=i
  simp only [It.av] at hgA
  by_cases hk:kk=k
  ·subst hk
   simp [-sized,c108,hl,hg,hset_hset,hlA,hgA,h1,w1,w2,hz,It.av,rItem,It.k]
  ·simp [-sized,c108,hl,hg,hset_hset,hlA,hgA,h1,w1,w2,hz,It.av,It.avs,rItem,It.k,hk,t0]
theorem f50 (nl:Bool) (L pre l:List It) (hL:L=pre++l) (bad out:Bool) (h:Heap) (a:Loc) (ha:dom h a) (hw:wts L≤1000000) :
  (mu K).fn 50 [.ptr a 0] (hset h a (RX nl L pre.length bad out))=match rItem 0 l with
   | some (i,r)=>some (.val (.str i.nn) (hset h a (RX nl L (pre.length+1) bad out)))
   | none=>some (.val (.str []) (hset h a (RX nl L pre.length true out))):=by
 have hl:=ne_len ha
 have k:=f108 0 nl L pre l hL bad out ([] :: h) a (by simp [dom,hget,hl];exact ha) hw
 rw [fn_go (KX _ _ _) fn50 rfl (by simp [c50])]
 simp only [hset,hl,if_false] at k
 cases hr:rItem 0 l with
 | none=>
  simp only [hr,It.av] at k
  simp [c50,KL,k]
 | some x=>
  obtain ⟨i,r⟩:=x
  obtain ⟨kk,n,t,nli,ll⟩:=i
  simp only [hr,It.av] at k
  simp [c50,KL,k,It.nn]
theorem f43 (nl:Bool) (L pre l:List It) (hL:L=pre++l) (bad out:Bool) (h:Heap) (a:Loc) (ha:dom h a) (hw:wts L≤1000000) :
  (mu K).fn 43 [.ptr a 0] (hset h a (RX nl L pre.length bad out))=match rItem 1 l with
   | some (i,r)=>some (.val (.str i.tt) (hset h a (RX nl L (pre.length+1) bad out)))
   | none=>some (.val (.str []) (hset h a (RX nl L pre.length true out))):=by
 have hl:=ne_len ha
 have k:=f108 1 nl L pre l hL bad out ([] :: h) a (by simp [dom,hget,hl];exact ha) hw
 rw [fn_go (KX _ _ _) fn43 rfl (by simp [c43])]
 simp only [hset,hl,if_false] at k
 cases hr:rItem 1 l with
 | none=>
  simp only [hr,It.av] at k
  simp [c43,KL,k]
 | some x=>
  obtain ⟨i,r⟩:=x
  obtain ⟨kk,n,t,nli,ll⟩:=i
  simp only [hr,It.av] at k
  simp [c43,KL,k,It.tt]
theorem f44 (nl:Bool) (L pre l:List It) (hL:L=pre++l) (bad out:Bool) (h:Heap) (a:Loc) (ha:dom h a) (hw:wts L≤1000000) :
  (mu K).fn 44 [.ptr a 0] (hset h a (RX nl L pre.length bad out))=match rItem 0 l with
   | some (i,r)=>some (.val (.int .i64 (numV i.nn).1) (hset h a (RX nl L (pre.length+1) bad (out || (numV i.nn).2))))
   | none=>some (.val (.int .i64 0) (hset h a (RX nl L pre.length true out))):=by
 have hl:=ne_len ha
 have hg:=fun B=>get_hset ha B
 have k:=f50 nl L pre l hL bad out ([] :: h) a (by simp [dom,hget,hl];exact ha) hw
 have h77:=fun s h=>f109 s h
 rw [fn_go (KX _ _ _) fn44 rfl (by simp [c44])]
 simp only [hset,hl,if_false] at k
 have s0:smallN []=(0,true):=by decide
 have w0:IntKind.i64.wrap 0=0:=rfl
 cases hr:rItem 0 l with
 | none=>
  simp only [hr] at k
  simp [c44,KL,k,h77,s0,w0]
 | some x=>
  obtain ⟨i,r⟩:=x
  simp only [hr] at k
  rcases hS:smallN i.nn with ⟨m,ok⟩
  cases ok
  ·simp [c44,KL,k,h77,hl,hg,hset_hset,numV,hS,RX]
  ·by_cases hm:m≤2147483647
   ·have h1:¬ (2147483647:Int) < (m:Int):=by omega
    have w1:IntKind.i64.wrap (m:Int)=(m:Int):=wrap64 (by omega) (by omega)
    simp [c44,KL,k,h77,hl,hg,hset_hset,numV,hS,hm,h1,w1,RX]
   ·have h1:(2147483647:Int) < (m:Int):=by omega
    simp [c44,KL,k,h77,hl,hg,hset_hset,numV,hS,hm,h1,RX]
theorem f45 (nl:Bool) (L pre l:List It) (hL:L=pre++l) (bad out:Bool) (h:Heap) (a:Loc) (ha:dom h a) :
  (mu K).fn 45 [.ptr a 0] (hset h a (RX nl L pre.length bad out))=some (.val (.int .i64 (if bad=true∨l≠[] then 3 else if out=true then 2 else 0)) (hset h a (RX nl L pre.length bad out))):=by
 have hl:=ne_len ha
 have hg:=fun B=>get_hset ha B
 rw [fn_go (KX _ _ _) fn45 rfl (by simp [c45])]
 cases l with
 | nil=>
  have e:L=pre:=by simpa using hL
  subst e
  cases bad<;>cases out<;>simp [c45,hl,hg,hset_hset,RX]
 | cons i r=>
  have hlA:(It.avs L).length=pre.length+(r.length+1):=by rw [avs_length,hL];simp
  have hlB:L.length=pre.length+(r.length+1):=by rw [hL];simp
  have h1:(pre.length:Int) < (pre.length:Int)+((r.length:Int)+1):=by omega
  cases bad<;>cases out<;>simp [c45,hl,hg,hset_hset,RX,hlA,hlB,h1]
end Go.Ab.WireG
/-
  The reference's reader: a list within, opened and closed;lists of numbers.
-/
namespace Go.Ab.WireG
set_option maxRecDepth 100000
set_option maxHeartbeats 1000000
def It.fl:It→Bool
 | .mk _ _ _ f _=>f
theorem hset_snoc {fr:List Blk} {h:Heap} {a:Loc} (ha:dom (fr :: h) a) (B C:Blk):hset ((fr++[C]) :: h) a B=match hset (fr :: h) a B with
  | g :: o=>(g++[C]) :: o
  | []=>[]:=by
 by_cases e:a.1=h.length
 ·have hlt:a.2 < fr.length:=by simpa [dom,hget,e] using ha
  simp [hset,e,List.set_append_left _ _ hlt]
 ·simp [hset,e]
theorem dom_up {h:Heap} {a:Loc} (ha:dom h a) (f:List Blk):dom (f :: h) a:=by
 have:=ne_len ha
 simp only [dom,hget,this,if_false]
 exact ha
theorem hset_up {h:Heap} {a:Loc} (ha:dom h a) (f:List Blk) (B:Blk):hset (f :: h) a B=f :: hset h a B:=by
 have:=ne_len ha
 simp only [hset,this,if_false]
@[simp] theorem lv_ren (r:Loc→Loc) (nl:Bool) (l:List AV):(lv nl l).ren r=lv nl l:=by cases l<;>cases nl<;>simp [lv,AV.ren]
theorem f71 (nl:Bool) (L pre l:List It) (hL:L=pre++l) (bad out:Bool) (fr:List Blk) (h:Heap) (a:Loc) (ha:dom (fr :: h) a) (hw:wts L≤1000000) :
  (mu K).fn 71 [.ptr a 0] (hset (fr :: h) a (RX nl L pre.length bad out))=match rItem 2 l with
   | some (i,r)=>some (.val (.ptr (h.length,fr.length) 0) (hset ((fr++[RX i.fl i.ll 0 false false]) :: h) a (RX nl L (pre.length+1) bad out)))
   | none=>some (.val (.ptr (h.length,fr.length) 0) (hset ((fr++[RX true [] 0 false false]) :: h) a (RX nl L pre.length true out))):=by
 have hl:=ne_len ha
 have k:=f108 2 nl L pre l hL bad out ([] :: fr :: h) a (dom_up ha []) hw
 have t0:lv true []=AV.nils:=rfl
 rw [fn_go (KX _ _ _) fn71 rfl (by simp [c71])]
 simp only [hset_snoc ha]
 simp only [hset_up ha] at k
 by_cases e:a.1=h.length
 ·cases hr:rItem 2 l with
  | none=>
   simp only [hr,It.av] at k
   simp only [hset,e,if_true,show ¬ h.length=h.length+1 by omega,List.length_cons,if_false] at k ⊢
   simp [c71,KL,k,RX,It.avs,t0]
  | some x=>
   obtain ⟨i,r⟩:=x
   obtain ⟨kk,n,t,nli,ll⟩:=i
   simp only [hr,It.av] at k
   simp only [hset,e,if_true,show ¬ h.length=h.length+1 by omega,List.length_cons,if_false] at k ⊢
   simp [c71,KL,k,RX,It.avs,t0,It.fl,It.ll]
 ·cases hr:rItem 2 l with
  | none=>
   simp only [hr,It.av] at k
   simp only [List.length_cons] at hl
   simp only [hset,e,if_false,List.length_cons,hl] at k ⊢
   simp [c71,KL,k,RX,It.avs,t0,hset_length]
  | some x=>
   obtain ⟨i,r⟩:=x
   obtain ⟨kk,n,t,nli,ll⟩:=i
   simp only [hr,It.av] at k
   simp only [List.length_cons] at hl
   simp only [hset,e,if_false,List.length_cons,hl] at k ⊢
   simp [c71,KL,k,RX,It.avs,t0,It.fl,It.ll,hset_length]
theorem f72 {H:Heap} {a b:Loc} {nA nB:Bool} {LA LB:List It} {na nb:Nat} {badA badB outA outB:Bool} (hA:hget H a=some (RX nA LA na badA outA)) (hB:hget H b=some (RX nB LB nb badB outB)) (hab:b≠a) :
  (mu K).fn 72 [.ptr a 0,.ptr b 0] H=some (.val (.tup []) (hset H a (RX nA LA na (badA || (badB || decide (nb < LB.length))) (outA || outB)))):=by
 have hl:=ne_len (dom_of hA)
 have hl2:=ne_len (dom_of hB)
 have hg:=fun B=>get_hset (dom_of hA) B
 have ho:=fun B=>(get_other hab B).trans hB
 have hA':=hA
 have hB':=hB
 simp only [RX] at hA' hB' ho
 have hc:((nb:Int) < (LB.length:Int))=(nb < LB.length):=by simp
 rw [fn_go (KX _ _ _) fn72 rfl (by simp [c72])]
 cases badA<;>cases badB<;>cases outA<;>simp [c72,hl,hl2,hg,ho,hA',hB',hset_hset,RX,hc]
end Go.Ab.WireG
/-
  The reference's reader: lists of items, read by a function.
-/
namespace Go.Ab.WireG
set_option maxRecDepth 100000
set_option maxHeartbeats 1000000
def rdL (M:FuncId) (et sz bytes:Nat) (z:AV):CC:=(.seq (.seq (.draw [(.mk (.mk (some 7) none (.p (.mv (.t 4)))) 0 [4] [] []),(.mk (.mk (some 8) none (.p (.nilck (.t 7)))) 1 [7] [] []),(.mk (.mk (some 9) none (.p (.fa 1 (.t 8)))) 2 [8] [] []),(.mk (.mk (some 10) none (.m (.load false 1 (.t 9)))) 3 [9] [] []),(.mk (.mk (some 11) none (.p (.mv (.t 4)))) 4 [4] [] []),(.mk (.mk (some 12) none (.p (.nilck (.t 11)))) 5 [11] [] []),(.mk (.mk (some 13) none (.p (.fa 0 (.t 12)))) 6 [12] [] []),(.mk (.mk (some 14) none (.m (.load false 1 (.t 13)))) 7 [13] [] []),(.mk (.mk (some 15) none (.p (.len true (.t 14)))) 8 [14] [] []),(.mk (.mk (some 16) none (.p (.bin .lss (.t 10) (.t 15)))) 9 [10,15] [] []),(.mk (.mk (some 17) none (.p (.mv (.t 16)))) 10 [16] [] []),(.mk (.mk (some 18) (some (17,true)) (.p (.mv (.t 4)))) 11 [4,17] [] []),(.mk (.mk (some 19) (some (17,true)) (.p (.nilck (.t 18)))) 12 [18,17] [] []),(.mk (.mk (some 20) (some (17,true)) (.p (.fa 2 (.t 19)))) 13 [19,17] [] []),(.mk (.mk (some 21) (some (17,true)) (.m (.load false 1 (.t 20)))) 14 [20,17] [] []),(.mk (.mk (some 22) (some (17,true)) (.p (.not (.t 21)))) 15 [21,17] [] []),(.mk (.mk (some 23) none (.p (.pick (.t 17) (.t 22) (.c (.bool false))))) 16 [17,22] [] [])]) (.cond (.t 23) .skip (.exit 0))) (.block 1 (.reg [(.mk (some 24) none (.p (.mv (.t 3)))),(.mk (some 25) none (.p (.mv (.t 4)))),(.mk (some 26) none (.m (.call (.c (.fn (.func M) [] [])) [(.t 25)]))),(.mk (some 27) none (.m (.bldS et sz 1 z [(0,(.t 26))] false))),(.mk (some 28) none (.m (.app et sz bytes (.t 24) (.t 27)))),(.mk (some 3) none (.m (.mat (.t 28))))])))
def rdF (M:FuncId) (et sz bytes:Nat) (z:AV):CFun:=(.mk (.code (.seq (.reg [(.mk (some 2) none (.p (.mv (.c .nils))))]) (.seq (.reg [(.mk (some 3) none (.m (.mat (.c .nils))))]) (.seq (.reg [(.mk (some 5) none (.p (.mv (.t 0)))),(.mk (some 6) none (.m (.call (.c (.fn (.func 71) [] [])) [(.t 5)]))),(.mk (some 4) none (.p (.mv (.t 6))))]) (.seq (.block 0 (.loop [0,3,4] (rdL M et sz bytes z))) (.seq (.reg [(.mk (some 29) none (.p (.mv (.t 0)))),(.mk (some 30) none (.p (.mv (.t 4)))),(.mk (some 31) none (.m (.call (.c (.fn (.func 72) [] [])) [(.t 29),(.t 30)])))]) (.seq (.reg [(.mk (some 32) none (.p (.mv (.t 3)))),(.mk (some 2) none (.p (.mv (.t 32))))]) .ret))))))) [(.tmp 2)] 1 33)
def RefR (f:FuncId) {α:Type} (sp:SP α) (av:α→AV) (e:α→α→Bool):Prop:=
 ∀ (nl:Bool) (L pre l:List It) (bad out:Bool) (h:Heap) (a:Loc),L=pre++l→dom h a→wts L≤1000000→match sp l out with
  | some (x,r,o)=>∃ y p,l=p++r∧e x y=true∧(mu K).fn f [.ptr a 0] (hset h a (RX nl L pre.length bad out))=some (.val (av y) (hset h a (RX nl L (pre++p).length bad o)))
  | none=>∃ y p r o,l=p++r∧(mu K).fn f [.ptr a 0] (hset h a (RX nl L pre.length bad out))=some (.val (av y) (hset h a (RX nl L (pre++p).length true o)))
theorem q50:RefR 50 (one iNat) .str eqB:=fun nl L pre l bad out h a hL ha hw=>by
 have k:=f50 nl L pre l hL bad out h a ha hw
 cases l with
 | nil=>exact ⟨[],[],[],out,rfl,by simpa [rItem] using k⟩
 | cons i r=>
  simp only [rItem] at k
  simp only [one,iNat]
  by_cases hk:i.k=0
  ·simp only [hk,if_true] at k ⊢
   exact ⟨i.nn,[i],rfl,by simp [eqB],by simpa using k⟩
  ·simp only [hk,if_false] at k ⊢
   exact ⟨[],[],i :: r,out,rfl,by simpa using k⟩
theorem q43:RefR 43 (one iText) .str eqB:=fun nl L pre l bad out h a hL ha hw=>by
 have k:=f43 nl L pre l hL bad out h a ha hw
 cases l with
 | nil=>exact ⟨[],[],[],out,rfl,by simpa [rItem] using k⟩
 | cons i r=>
  simp only [rItem] at k
  simp only [one,iText]
  by_cases hk:i.k=1
  ·simp only [hk,if_true] at k ⊢
   exact ⟨i.tt,[i],rfl,by simp [eqB],by simpa using k⟩
  ·simp only [hk,if_false] at k ⊢
   exact ⟨[],[],i :: r,out,rfl,by simpa using k⟩
abbrev eqZ (a b:Int):Bool:=decide (a=b)
theorem q44:RefR 44 (one iNum) (.int .i64) eqZ:=fun nl L pre l bad out h a hL ha hw=>by
 have k:=f44 nl L pre l hL bad out h a ha hw
 cases l with
 | nil=>exact ⟨0,[],[],out,rfl,by simpa [rItem] using k⟩
 | cons i r=>
  simp only [rItem] at k
  simp only [one,iNum]
  by_cases hk:i.k=0
  ·simp only [hk,if_true] at k ⊢
   exact ⟨(numV i.nn).1,[i],rfl,by simp [eqZ],by simpa using k⟩
  ·simp only [hk,if_false] at k ⊢
   exact ⟨0,[],i :: r,out,rfl,by simpa using k⟩
theorem rd_stop {M:FuncId} {et sz bytes:Nat} {z:AV} (H:Heap) (a:Loc) (nli:Bool) (LL:List It) (d:List AV) (n:Nat) (b o:Bool) (t1 s1:Nat) (hb:b=true∨n=LL.length) :
  ∃ env,(mu K).code (.loopAt 2 [0,3,4] (rdL M et sz bytes z)) ⟨[(0,.ptr a 0),(3,.own (H.length,0) d.length),(4,.ptr (H.length,1) 0)],[.arr t1 s1 false d,RX nli LL n b o] :: H⟩ =
   some (.exit 0,⟨env,[.arr t1 s1 false d,RX nli LL n b o] :: H⟩)∧get env 0=.ptr a 0∧get env 3=.own (H.length,0) d.length∧get env 4=.ptr (H.length,1) 0:=by
 rw [loop_go]
 generalize (mu K).code (CC.loopAt 2 [0,3,4] (rdL M et sz bytes z))=F
 rcases hb with rfl | rfl
 ·by_cases hn:(n:Int) < (LL.length:Int)
  ·simp [rdL,RX,hn]
  ·simp [rdL,RX,hn]
 ·simp [rdL,RX]
theorem rd_loop {M:FuncId} {et sz bytes:Nat} {z:AV} {α:Type} {ip:IP α} {av:α→AV} {e:α→α→Bool} (hz:z.cells.length=sz) (hzp:z.pure=true) (hby:bytes≤1000)
  (hav:∀ x,(av x).cells.length=sz) (hpu:∀ x,(av x).refOk (fun _=>false)=true) (hM:RefR M (one ip) av e) (H:Heap) (a:Loc) (nli:Bool) (LL:List It) (hw:wts LL≤1000000) :
  ∀ (l pre:List It) (done:List AV) (t0 s0:Nat) (out:Bool),LL=pre++l→(s0=0∨t0=et∧s0=sz)→done.length=pre.length →
  ∃ env t1 s1 ys n bad o,(mu K).code (.loopAt 2 [0,3,4] (rdL M et sz bytes z)) ⟨[(0,.ptr a 0),(3,.own (H.length,0) done.length),(4,.ptr (H.length,1) 0)],[.arr t0 s0 false done,RX nli LL pre.length false out] :: H⟩ =
    some (.exit 0,⟨env,[.arr t1 s1 false (done++ys.map av),RX nli LL n bad o] :: H⟩)∧get env 0=.ptr a 0∧get env 3=.own (H.length,0) (done.length+ys.length)∧get env 4=.ptr (H.length,1) 0 ∧
   match mItems ip l out with
   | some (xs,o')=>bad=false∧n=LL.length∧o=o'∧eqL e xs ys=true
   | none=>bad=true
 | [],pre,done,t0,s0,out,hL,h0,hd=>by
  have e:LL=pre:=by simpa using hL
  subst e
  have hlen:=len_wt LL
  obtain ⟨env,k,g0,g3,g4⟩:=rd_stop (M:=M) (et:=et) (sz:=sz) (bytes:=bytes) (z:=z) H a nli LL done LL.length false out t0 s0 (.inr rfl)
  exact ⟨env,t0,s0,[],LL.length,false,out,by simpa using k,g0,by simpa using g3,g4,by simp [mItems,eqL]⟩
 | i :: r,pre,done,t0,s0,out,hL,h0,hd=>by
  have hlen:=len_wt LL
  have hln:LL.length=pre.length+(r.length+1):=by rw [hL];simp
  have k1:=hM nli LL pre (i :: r) false out ([.arr t0 s0 false done,RX nli LL pre.length false out] :: H) (H.length,1) hL (by simp [dom,hget]) hw
  have hro:=fun x q=>refOk_all _ (hpu x) q
  have hvi:=fun x q hh=>view_pure _ (hpu x) q hh
  have h1:(pre.length:Int) < (pre.length:Int)+((r.length:Int)+1):=by omega
  have hr1:(done.length+1) * bytes≤room:=by
   have:=Nat.mul_le_mul (show done.length+1≤1000001 by omega) hby
   unfold room;omega
  have hr2:done.length+1≤room:=by unfold room;omega
  have hzp2:z.refOk (fun _=>false)=true:=hzp
  have hlA:(It.avs LL).length=pre.length+(r.length+1):=by rw [avs_length,hL];simp
  simp only [one,hset,if_true,List.set_cons_succ,List.set_cons_zero] at k1
  simp only [mItems]
  have step:∀ (y:α) (n:Nat) (b o:Bool),(mu K).fn M [.ptr (H.length,1) 0] ([.arr t0 s0 false done,RX nli LL pre.length false out] :: H)=some (.val (av y) ([.arr t0 s0 false done,RX nli LL n b o] :: H)) →
    (mu K).code (.loopAt 2 [0,3,4] (rdL M et sz bytes z)) ⟨[(0,.ptr a 0),(3,.own (H.length,0) done.length),(4,.ptr (H.length,1) 0)],[.arr t0 s0 false done,RX nli LL pre.length false out] :: H⟩ =
    (mu K).code (.loopAt 2 [0,3,4] (rdL M et sz bytes z)) ⟨[(0,.ptr a 0),(3,.own (H.length,0) (done++[av y]).length),(4,.ptr (H.length,1) 0)],[.arr et sz false (done++[av y]),RX nli LL n b o] :: H⟩:=fun y n b o k=>by
   rw [loop_go]
   generalize (mu K).code (CC.loopAt 2 [0,3,4] (rdL M et sz bytes z))=F
   simp only [RX] at k ⊢
   simp [rdL,KL,k,hlA,h1,hvi,hro,hpu,hav,hz,hr1,hr2,h0,List.replicate,hzp2]
  cases e1:ip i out with
  | none=>
   rw [e1] at k1
   obtain ⟨y,p,r',o',_,k1⟩:=k1
   obtain ⟨env,k2,g0,g3,g4⟩:=rd_stop (M:=M) (et:=et) (sz:=sz) (bytes:=bytes) (z:=z) H a nli LL (done++[av y]) (pre++p).length true o' et sz (.inl rfl)
   exact ⟨env,et,sz,[y],(pre++p).length,true,o',(step y _ _ _ k1).trans (by simpa using k2),g0,by simpa using g3,g4,by simp⟩
  | some y1=>
   obtain ⟨x,b1⟩:=y1
   rw [e1] at k1
   obtain ⟨y,p,hp,he,k1⟩:=k1
   have hp1:p=[i]:=by
    have:=congrArg List.length hp
    simp at this
    have h2:p.length=1:=by omega
    match p,h2 with
    | [j],_=>simp at hp;rw [hp]
   subst hp1
   have ih:=rd_loop hz hzp hby hav hpu hM H a nli LL hw r (pre++[i]) (done++[av y]) et sz b1 (by simp [hL]) (.inr ⟨rfl,rfl⟩) (by simp [hd])
   obtain ⟨env,t1,s1,ys,n,bad,o,ih,g0,g3,g4,m⟩:=ih
   refine ⟨env,t1,s1,y :: ys,n,bad,o,(step y _ _ _ k1).trans (ih.trans (by simp)),g0,by rw [g3];simp;omega,g4,?_⟩
   cases e2:mItems ip r b1 with
   | none=>
    rw [e2] at m
    simp only [e2]
    exact m
   | some y2=>
    obtain ⟨xs,b2⟩:=y2
    rw [e2] at m
    simp only [e2]
    exact ⟨m.1,m.2.1,m.2.2.1,by simp [eqL,he,m.2.2.2]⟩
theorem sl_eq {α:Type} {ip:IP α} (ho:OrI ip) (i:It) (b:Bool):iSl ip i b=if i.k=2 then (mItems ip i.ll false).map (fun y=>(⟨false,y.1⟩,b || y.2)) else none:=by
 simp only [iMap,iInner,sAll]
 rw [or_items ho i.ll b]
 by_cases hk:i.k=2
 ·simp only [hk,if_true]
  cases mItems ip i.ll false<;>rfl
 ·simp only [hk,if_false]
theorem wts_in {i:It} {r:List It} (h:wts (i :: r)≤1000000):wts i.ll≤1000000:=by
 obtain ⟨k,n,t,nl,l⟩:=i
 simp only [wts,wt,It.ll] at h ⊢
 omega
theorem wts_app:∀ (l r:List It),wts (l++r)=wts l+wts r
 | [],r=>by simp [wts]
 | i :: l,r=>by simp only [List.cons_append,wts,wts_app l r];omega
theorem rd_ok {f M:FuncId} {et sz bytes:Nat} {z:AV} {α:Type} {ip:IP α} {av:α→AV} {e:α→α→Bool} (hf:K.fns f=some (rdF M et sz bytes z)) (hz:z.cells.length=sz) (hzp:z.pure=true) (hby:bytes≤1000)
  (hav:∀ x,(av x).cells.length=sz) (hpu:∀ x,(av x).refOk (fun _=>false)=true) (hM:RefR M (one ip) av e) (ho:OrI ip) :
  RefR f (one (iSl ip)) (fun s=>.lst (s.l.map av)) (fun a b=>eqL e a.l b.l):=fun nl L pre l bad out h a hL ha hw=>by
 have k1:=f71 nl L pre l hL bad out [.arr 0 0 false []] h a (dom_up ha _) hw
 have hl:=ne_len ha
 have hro:=fun x q=>refOk_all _ (hpu x) q
 have hvi:=fun x q hh=>view_pure _ (hpu x) q hh
 simp only [hset_up ha] at k1
 have fin:∀ (nli:Bool) (LL:List It) (n0:Nat) (bad0:Bool),wts LL≤1000000 →
   (mu K).fn 71 [.ptr a 0] ([.arr 0 0 false []] :: hset h a (RX nl L pre.length bad out))=some (.val (.ptr (h.length,1) 0) ([.arr 0 0 false [],RX nli LL 0 false false] :: hset h a (RX nl L n0 bad0 out))) →
   ∃ ys n bad2 o,(mu K).fn f [.ptr a 0] (hset h a (RX nl L pre.length bad out))=some (.val (.lst (ys.map av)) (hset h a (RX nl L n0 (bad0 || (bad2 || decide (n < LL.length))) (out || o)))) ∧
    match mItems ip LL false with
    | some (xs,o')=>bad2=false∧n=LL.length∧o=o'∧eqL e xs ys=true
    | none=>bad2=true:=by
  intro nli LL n0 bad0 hwL k1
  obtain ⟨env,t1,s1,ys,n,bad2,o,k2,g0,g3,g4,m⟩:=rd_loop (et:=et) (bytes:=bytes) hz hzp hby hav hpu hM (hset h a (RX nl L n0 bad0 out)) a nli LL hwL LL [] [] 0 0 false rfl (.inl rfl) rfl
  refine ⟨ys,n,bad2,o,?_,m⟩
  have hd:dom (hset h a (RX nl L n0 bad0 out)) a:=dom_of (get_hset ha _)
  have hH:hget ([.arr t1 s1 false (ys.map av),RX nli LL n bad2 o] :: hset h a (RX nl L n0 bad0 out)) a=some (RX nl L n0 bad0 out):=by
   simp only [hget,hset_length,hl,if_false]
   exact get_hset ha _
  have hne:((h.length,1):Loc)≠a:=fun e=>by
   have:=dom_lt ha
   rw [←e] at this
   simp at this
  have k3:=f72 (b:=(h.length,1)) (nB:=nli) (LB:=LL) (nb:=n) (badB:=bad2) (outB:=o) hH (by simp [hget,hset_length]) hne
  simp only [hset_up hd,hset_hset] at k3
  simp only [hset_length,List.length_nil,List.nil_append,Nat.zero_add] at k2 g3 g4
  rw [fn_go (KX _ _ _) hf rfl (by simp [rdF])]
  simp only [RX,Int.natCast_zero] at k1 k2 k3 ⊢
  simp [rdF,KL,k1,k2,g0,g3,g4,k3,hvi,hro]
 cases l with
 | nil=>
  simp only [rItem,List.singleton_append,List.length_singleton] at k1
  obtain ⟨ys,n,bad2,o,k,m⟩:=fin _ _ _ _ (by simp [wts]) k1
  exact ⟨⟨false,ys⟩,[],[],out || o,rfl,by simpa using k⟩
 | cons i r=>
  have hwl:wts (i :: r)≤1000000:=by rw [hL,wts_app] at hw;omega
  simp only [rItem] at k1
  simp only [one,sl_eq ho]
  by_cases hk:i.k=2
  ·simp only [hk,if_true,List.singleton_append,List.length_singleton] at k1 ⊢
   obtain ⟨ys,n,bad2,o,k,m⟩:=fin _ _ _ _ (wts_in hwl) k1
   cases e2:mItems ip i.ll false with
   | none=>
    rw [e2] at m
    refine ⟨⟨false,ys⟩,[i],r,out || o,rfl,?_⟩
    subst m
    simpa using k
   | some y=>
    obtain ⟨xs,o'⟩:=y
    rw [e2] at m
    obtain ⟨m1,m2,m3,m4⟩:=m
    refine ⟨⟨false,ys⟩,[i],rfl,m4,?_⟩
    subst m1 m2 m3
    simpa using k
  ·simp only [hk,if_false,List.singleton_append,List.length_singleton] at k1 ⊢
   obtain ⟨ys,n,bad2,o,k,m⟩:=fin _ _ _ _ (by simp [wts]) k1
   exact ⟨⟨false,ys⟩,[],i :: r,out || o,rfl,by simpa using k⟩
abbrev vNs (s:Sl (List UInt8)):AV:=.lst (s.l.map .str)
abbrev vNss (s:Sl (Sl (List UInt8))):AV:=.lst (s.l.map vNs)
abbrev vIs (s:Sl Ig):AV:=.lst (s.l.map Ig.av)
abbrev vIss (s:Sl (Sl Ig)):AV:=.lst (s.l.map vIs)
theorem q57:RefR 57 (one iNs) vNs eqNs:=rd_ok (M:=50) (et:=30) (bytes:=16) (z:=.str []) fn57 rfl rfl (by omega) (fun x=>rfl) (fun x=>rfl) q50 or_nat
theorem q73:RefR 73 (one iNss) vNss eqNss:=rd_ok (M:=57) (et:=32) (bytes:=24) (z:=.nils) fn73 rfl rfl (by omega) (fun x=>rfl) (fun x=>rfl) q57 or_Ns
end Go.Ab.WireG
/-
  The reference's reader: integers;so many numbers;signatures.
-/
namespace Go.Ab.WireG
set_option maxRecDepth 100000
set_option maxHeartbeats 1000000
theorem int_stop (H:Heap) (a:Loc) (nli:Bool) (LL:List It) (d:List AV) (n:Nat) (b o:Bool) (t1 s1:Nat) (hb:b=true∨n=LL.length) :
  ∃ env,(mu K).code (.loopAt 2 [0,3,4] l117_0) ⟨[(0,.ptr a 0),(3,.own (H.length,0) d.length),(4,.ptr (H.length,1) 0)],[.arr t1 s1 false d,RX nli LL n b o] :: H⟩ =
   some (.exit 0,⟨env,[.arr t1 s1 false d,RX nli LL n b o] :: H⟩)∧get env 0=.ptr a 0∧get env 3=.own (H.length,0) d.length∧get env 4=.ptr (H.length,1) 0:=by
 rw [loop_go]
 generalize (mu K).code (CC.loopAt 2 [0,3,4] l117_0)=F
 rcases hb with rfl | rfl
 ·by_cases hn:(n:Int) < (LL.length:Int)
  ·simp [l117_0,RX,hn]
  ·simp [l117_0,RX,hn]
 ·simp [l117_0,RX]
theorem int_step (H:Heap) (a:Loc) (hA:(a.1=H.length)=False) (nli:Bool) (LL:List It) (hw:wts LL≤1000000) (done:List AV) (t0 s0:Nat) (n:Nat) (out:Bool) (h0:s0=0∨t0=198∧s0=2) (hn:n < LL.length) (hd:done.length=n)
  (j:It) (oj:okI j) (n':Nat) (b:Bool) (k:(mu K).fn 108 [.ptr (H.length,1) 0,.int .i64 2] ([.arr t0 s0 false done,RX nli LL n false out] :: H)=some (.val j.av ([.arr t0 s0 false done,RX nli LL n' b out] :: H))) :
  (mu K).code (.loopAt 2 [0,3,4] l117_0) ⟨[(0,.ptr a 0),(3,.own (H.length,0) done.length),(4,.ptr (H.length,1) 0)],[.arr t0 s0 false done,RX nli LL n false out] :: H⟩ =
   (mu K).code (.loopAt 2 [0,3,4] l117_0) ⟨[(0,.ptr a 0),(3,.own (H.length,0) (done++[iav (toI j).1 (toI j).2.1]).length),(4,.ptr (H.length,1) 0)],[.arr 198 2 false (done++[iav (toI j).1 (toI j).2.1]),RX nli LL n' (b || !(toI j).2.2) out] :: H⟩:=by
 have hlen:=len_wt LL
 have k2:=fun h=>f163 j h oj
 generalize toI j=T at k2 ⊢
 obtain ⟨ng,ab,ok⟩:=T
 have h1:(n:Int) < (LL.length:Int):=by omega
 have hr1:(done.length+1) * 24≤room:=by unfold room;omega
 have hr2:done.length+1≤room:=by unfold room;omega
 rw [loop_go]
 generalize (mu K).code (CC.loopAt 2 [0,3,4] l117_0)=F
 simp only [RX] at k ⊢
 cases b<;>cases ok<;>simp [l117_0,KL,k,k2,h1,hr1,hr2,h0,List.replicate,iav,hA]
theorem int_loop (H:Heap) (a:Loc) (hA:(a.1=H.length)=False) (nli:Bool) (LL:List It) (hw:wts LL≤1000000) :
  ∀ (l pre:List It) (done:List AV) (t0 s0:Nat) (out:Bool),LL=pre++l→(s0=0∨t0=198∧s0=2)→done.length=pre.length →
  ∃ env t1 s1 ys n bad o,(mu K).code (.loopAt 2 [0,3,4] l117_0) ⟨[(0,.ptr a 0),(3,.own (H.length,0) done.length),(4,.ptr (H.length,1) 0)],[.arr t0 s0 false done,RX nli LL pre.length false out] :: H⟩ =
    some (.exit 0,⟨env,[.arr t1 s1 false (done++ys.map Ig.av),RX nli LL n bad o] :: H⟩)∧get env 0=.ptr a 0∧get env 3=.own (H.length,0) (done.length+ys.length)∧get env 4=.ptr (H.length,1) 0 ∧
   match mItems iInt l out with
   | some (xs,o')=>bad=false∧n=LL.length∧o=o'∧eqL eqI xs ys=true
   | none=>bad=true
 | [],pre,done,t0,s0,out,hL,h0,hd=>by
  have e:LL=pre:=by simpa using hL
  subst e
  obtain ⟨env,k,g0,g3,g4⟩:=int_stop H a nli LL done LL.length false out t0 s0 (.inr rfl)
  exact ⟨env,t0,s0,[],LL.length,false,out,by simpa using k,g0,by simpa using g3,g4,by simp [mItems,eqL]⟩
 | i :: r,pre,done,t0,s0,out,hL,h0,hd=>by
  have hln:LL.length=pre.length+(r.length+1):=by rw [hL];simp
  have k1:=f108 2 nli LL pre (i :: r) hL false out ([.arr t0 s0 false done,RX nli LL pre.length false out] :: H) (H.length,1) (by simp [dom,hget]) hw
  have hwi:wt i≤1000000:=by
   rw [hL,wts_app] at hw
   simp only [wts] at hw
   omega
  simp only [rItem,hset,if_true,List.set_cons_succ,List.set_cons_zero] at k1
  simp only [mItems,iInt]
  by_cases hk:i.k=2
  ·simp only [hk,if_true] at k1 ⊢
   have st:=int_step H a hA nli LL hw done t0 s0 pre.length out h0 (by omega) hd i (ok_wt i hwi) _ _ k1
   simp only [Bool.false_or] at st
   by_cases ho:(toI i).2.2=true
   ·simp only [ho,if_true,Bool.not_true] at st ⊢
    obtain ⟨env,t1,s1,ys,n,bad,o,ih,g0,g3,g4,m⟩:=int_loop H a hA nli LL hw r (pre++[i]) (done++[iav (toI i).1 (toI i).2.1]) 198 2 out (by simp [hL]) (.inr ⟨rfl,rfl⟩) (by simp [hd])
    simp only [List.length_append,List.length_singleton] at ih st g3
    refine ⟨env,t1,s1,⟨(toI i).1,(toI i).2.1⟩ :: ys,n,bad,o,st.trans (ih.trans (by simp [Ig.av])),g0,by rw [g3];simp;omega,g4,?_⟩
    cases e2:mItems iInt r out with
    | none=>
     rw [e2] at m
     exact m
    | some y2=>
     obtain ⟨xs,b2⟩:=y2
     rw [e2] at m
     exact ⟨m.1,m.2.1,m.2.2.1,by simp [eqL,m.2.2.2,eqI]⟩
   ·have ho:(toI i).2.2=false:=by simpa using ho
    simp only [ho,Bool.not_false] at st
    obtain ⟨env,k2,g0,g3,g4⟩:=int_stop H a nli LL (done++[iav (toI i).1 (toI i).2.1]) (pre.length+1) true out 198 2 (.inl rfl)
    exact ⟨env,198,2,[⟨(toI i).1,(toI i).2.1⟩],pre.length+1,true,out,st.trans (by simpa [Ig.av] using k2),g0,by simpa using g3,g4,by simp [ho]⟩
  ·simp only [hk,if_false] at k1 ⊢
   have st:=int_step H a hA nli LL hw done t0 s0 pre.length out h0 (by omega) hd zI0 (ok_wt zI0 (by simp [wt,wts])) _ _ k1
   simp only [Bool.true_or] at st
   obtain ⟨env,k2,g0,g3,g4⟩:=int_stop H a nli LL (done++[iav (toI zI0).1 (toI zI0).2.1]) pre.length true out 198 2 (.inl rfl)
   exact ⟨env,198,2,[⟨(toI zI0).1,(toI zI0).2.1⟩],pre.length,true,out,st.trans (by simpa [Ig.av] using k2),g0,by simpa using g3,g4,rfl⟩
theorem q117:RefR 117 (one iIs) vIs eqIs:=fun nl L pre l bad out h a hL ha hw=>by
 have k1:=f71 nl L pre l hL bad out [.arr 0 0 false []] h a (dom_up ha _) hw
 have hl:=ne_len ha
 simp only [hset_up ha] at k1
 have fin:∀ (nli:Bool) (LL:List It) (n0:Nat) (bad0:Bool),wts LL≤1000000 →
   (mu K).fn 71 [.ptr a 0] ([.arr 0 0 false []] :: hset h a (RX nl L pre.length bad out))=some (.val (.ptr (h.length,1) 0) ([.arr 0 0 false [],RX nli LL 0 false false] :: hset h a (RX nl L n0 bad0 out))) →
   ∃ ys n bad2 o,(mu K).fn 117 [.ptr a 0] (hset h a (RX nl L pre.length bad out))=some (.val (.lst (ys.map Ig.av)) (hset h a (RX nl L n0 (bad0 || (bad2 || decide (n < LL.length))) (out || o)))) ∧
    match mItems iInt LL false with
    | some (xs,o')=>bad2=false∧n=LL.length∧o=o'∧eqL eqI xs ys=true
    | none=>bad2=true:=by
  intro nli LL n0 bad0 hwL k1
  obtain ⟨env,t1,s1,ys,n,bad2,o,k2,g0,g3,g4,m⟩:=int_loop (hset h a (RX nl L n0 bad0 out)) a (by rw [hset_length];exact hl) nli LL hwL LL [] [] 0 0 false rfl (.inl rfl) rfl
  refine ⟨ys,n,bad2,o,?_,m⟩
  have hd:dom (hset h a (RX nl L n0 bad0 out)) a:=dom_of (get_hset ha _)
  have hH:hget ([.arr t1 s1 false (ys.map Ig.av),RX nli LL n bad2 o] :: hset h a (RX nl L n0 bad0 out)) a=some (RX nl L n0 bad0 out):=by
   simp only [hget,hset_length,hl,if_false]
   exact get_hset ha _
  have hne:((h.length,1):Loc)≠a:=fun e=>by
   have:=dom_lt ha
   rw [←e] at this
   simp at this
  have k3:=f72 (b:=(h.length,1)) (nB:=nli) (LB:=LL) (nb:=n) (badB:=bad2) (outB:=o) hH (by simp [hget,hset_length]) hne
  simp only [hset_up hd,hset_hset] at k3
  simp only [hset_length,List.length_nil,List.nil_append,Nat.zero_add] at k2 g3 g4
  rw [fn_go (KX _ _ _) fn117 rfl (by simp [c117])]
  simp only [RX,Int.natCast_zero] at k1 k2 k3 ⊢
  simp [c117,KL,k1,k2,g0,g3,g4,k3]
 cases l with
 | nil=>
  simp only [rItem,List.singleton_append,List.length_singleton] at k1
  obtain ⟨ys,n,bad2,o,k,m⟩:=fin _ _ _ _ (by simp [wts]) k1
  exact ⟨⟨false,ys⟩,[],[],out || o,rfl,by simpa using k⟩
 | cons i r=>
  have hwl:wts (i :: r)≤1000000:=by rw [hL,wts_app] at hw;omega
  simp only [rItem] at k1
  simp only [one,sl_eq or_int]
  by_cases hk:i.k=2
  ·simp only [hk,if_true,List.singleton_append,List.length_singleton] at k1 ⊢
   obtain ⟨ys,n,bad2,o,k,m⟩:=fin _ _ _ _ (wts_in hwl) k1
   cases e2:mItems iInt i.ll false with
   | none=>
    rw [e2] at m
    refine ⟨⟨false,ys⟩,[i],r,out || o,rfl,?_⟩
    subst m
    simpa using k
   | some y=>
    obtain ⟨xs,o'⟩:=y
    rw [e2] at m
    obtain ⟨m1,m2,m3,m4⟩:=m
    refine ⟨⟨false,ys⟩,[i],rfl,m4,?_⟩
    subst m1 m2 m3
    simpa using k
  ·simp only [hk,if_false,List.singleton_append,List.length_singleton] at k1 ⊢
   obtain ⟨ys,n,bad2,o,k,m⟩:=fin _ _ _ _ (by simp [wts]) k1
   exact ⟨⟨false,ys⟩,[],i :: r,out || o,rfl,by simpa using k⟩
def Sm (n:Nat):SP (List (List UInt8)):=fun l b=>match one iNs l b with
 | some (x,r,o)=>if x.l.length=n then some (x.l,r,o) else none
 | none=>none
theorem eqL_eq:∀ {s t:List (List UInt8)},eqL eqB s t=true→t=s
 | [],[],_=>rfl
 | x :: s,y :: t,h=>by
  simp only [eqL,eqB,Bool.and_eq_true,decide_eq_true_eq] at h
  rw [h.1,eqL_eq h.2]
 | [],_ :: _,h=>by cases h
 | _ :: _,[],h=>by cases h
theorem q65 (n:Nat) (hn:n≤10) (nl:Bool) (L pre l:List It) (bad out:Bool) (h:Heap) (a:Loc) (hL:L=pre++l) (ha:dom h a) (hw:wts L≤1000000):match Sm n l out with
  | some (xs,r,o)=>xs.length=n∧∃ p,l=p++r∧(mu K).fn 65 [.ptr a 0,.int .i64 n] (hset h a (RX nl L pre.length bad out))=some (.val (.lst (xs.map .str)) (hset h a (RX nl L (pre++p).length bad o)))
  | none=>∃ (ys:List (List UInt8)) (p r:List It) (o:Bool),ys.length=n∧l=p++r∧(mu K).fn 65 [.ptr a 0,.int .i64 n] (hset h a (RX nl L pre.length bad out))=some (.val (.lst (ys.map .str)) (hset h a (RX nl L (pre++p).length true o))):=by
 have k:=q57 nl L pre l bad out ([] :: h) a hL (dom_up ha _) hw
 have hl:=ne_len ha
 have hg:=fun B=>get_hset ha B
 simp only [hset_up ha] at k
 have go:∀ (y:Sl (List UInt8)) (m:Nat) (b o:Bool),(mu K).fn 57 [.ptr a 0] ([] :: hset h a (RX nl L pre.length bad out))=some (.val (vNs y) ([] :: hset h a (RX nl L m b o))) →
   (mu K).fn 65 [.ptr a 0,.int .i64 n] (hset h a (RX nl L pre.length bad out))=if y.l.length=n then some (.val (vNs y) (hset h a (RX nl L m b o))) else some (.val (.lst ((List.replicate n []).map .str)) (hset h a (RX nl L m true o))):=by
  intro y m b o k
  have hr1:n * 16≤room:=by unfold room;omega
  have hr2:n≤room:=by unfold room;omega
  rw [fn_go (KX _ _ _) fn65 rfl (by simp [c65])]
  simp only [RX] at k ⊢
  by_cases e:y.l.length=n
  ·simp [c65,KL,k,e]
  ·have e':¬ (y.l.length:Int)=(n:Int):=by omega
   simp [c65,KL,k,e,e',hl,hg,hset_hset,hr1,hr2]
 unfold Sm
 cases e:one iNs l out with
 | none=>
  rw [e] at k
  obtain ⟨y,p,r,o,hp,k⟩:=k
  have g:=go y _ _ _ k
  by_cases hy:y.l.length=n
  ·rw [if_pos hy] at g
   exact ⟨y.l,p,r,o,hy,hp,g⟩
  ·rw [if_neg hy] at g
   exact ⟨List.replicate n [],p,r,o,by simp,hp,g⟩
 | some x=>
  obtain ⟨x,r,o⟩:=x
  rw [e] at k
  obtain ⟨y,p,hp,he,k⟩:=k
  have hy:y.l=x.l:=eqL_eq he
  have g:=go y _ _ _ k
  rw [hy] at g
  simp only
  by_cases hx:x.l.length=n
  ·rw [if_pos hx] at g ⊢
   refine ⟨hx,p,hp,?_⟩
   rw [g,vNs,hy]
  ·rw [if_neg hx] at g ⊢
   exact ⟨List.replicate n [],p,r,o,by simp,hp,g⟩
theorem one_sg (l:List It) (b:Bool):one iSg l b=match Sm 3 l b with
  | some ([x,y,z],r,o)=>some (⟨x,y,z⟩,r,o)
  | _=>none:=by
 unfold Sm
 cases l with
 | nil=>rfl
 | cons i r=>
  simp only [one,sg_list,iMap]
  rcases iInner (sAll iNat) i b with _ | ⟨xs,o⟩
  ·rfl
  ·rcases xs with _ | ⟨x,_ | ⟨y,_ | ⟨z,_ | ⟨w,xs⟩⟩⟩⟩<;>simp
theorem one_p2 (l:List It) (b:Bool):one iP2 l b=match Sm 2 l b with
  | some ([x,y],r,o)=>some (⟨x,y⟩,r,o)
  | _=>none:=by
 unfold Sm
 cases l with
 | nil=>rfl
 | cons i r=>
  simp only [one,p2_list,iMap]
  rcases iInner (sAll iNat) i b with _ | ⟨xs,o⟩
  ·rfl
  ·rcases xs with _ | ⟨x,_ | ⟨y,_ | ⟨w,xs⟩⟩⟩<;>simp
theorem q58:RefR 58 (one iSg) Sg.av eqSg:=fun nl L pre l bad out h a hL ha hw=>by
 have k:=q65 3 (by omega) nl L pre l bad out ([.box 44 false (.agg [.str [],.str [],.str []])] :: h) a hL (dom_up ha _) hw
 have hl:=ne_len ha
 simp only [hset_up ha] at k
 rw [one_sg]
 have go:∀ (x y z:List UInt8) (m:Nat) (b o:Bool),(mu K).fn 65 [.ptr a 0,.int .i64 3] ([.box 44 false (.agg [.str [],.str [],.str []])] :: hset h a (RX nl L pre.length bad out))=some (.val (.lst ([x,y,z].map .str)) ([.box 44 false (.agg [.str [],.str [],.str []])] :: hset h a (RX nl L m b o))) →
   (mu K).fn 58 [.ptr a 0] (hset h a (RX nl L pre.length bad out))=some (.val (Sg.av ⟨x,y,z⟩) (hset h a (RX nl L m b o))):=by
  intro x y z m b o k
  rw [fn_go (KX _ _ _) fn58 rfl (by simp [c58])]
  simp only [RX] at k ⊢
  simp [c58,KL,k]
 cases e:Sm 3 l out with
 | none=>
  rw [e] at k
  obtain ⟨ys,p,r,o,hy,hp,k⟩:=k
  match ys,hy with
  | [x,y,z],_=>exact ⟨⟨x,y,z⟩,p,r,o,hp,go _ _ _ _ _ _ k⟩
 | some x=>
  obtain ⟨xs,r,o⟩:=x
  rw [e] at k
  obtain ⟨hx,p,hp,k⟩:=k
  match xs,hx with
  | [x,y,z],_=>exact ⟨⟨x,y,z⟩,p,hp,by simp [eqSg,eqB],go _ _ _ _ _ _ k⟩
end Go.Ab.WireG
