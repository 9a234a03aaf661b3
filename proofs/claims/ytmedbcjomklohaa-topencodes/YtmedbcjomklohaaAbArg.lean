/-
  The form's reading of an argument of any type made of bools, ints, strings, slices and structs, as a value of the evaluator's.
-/
import Derived.Test.YtmedbcjomklohaaAbTop
import Derived.Test.YtmedbcjomklohaaAbMore
set_option linter.unusedVariables false
set_option linter.unusedSimpArgs false
namespace Go.Ab
def slv (nl:Bool):List AV→AV
 | []=>if nl then .nils else .lst []
 | e :: r=>.lst (e :: r)
theorem slv_cells (nl:Bool) (es:List AV):(slv nl es).cells=[slv nl es]:=by cases es<;>cases nl<;>rfl
theorem slv_agg (nl:Bool) (es:List AV):(slv nl es).isAgg=false:=by cases es<;>cases nl<;>rfl
inductive TT where
 | bool
 | int (k:IntKind)
 | str
 | slice (t:TT)
 | struct (fs:List TT)
def TT.agg:TT→Bool
 | .struct _=>true
 | _=>false
mutual
def TT.size:TT→Nat
 | .struct fs=>TT.sizes fs
 | .bool=>1
 | .int _=>1
 | .str=>1
 | .slice _=>1
def TT.sizes:List TT→Nat
 | []=>0
 | t :: r=>t.size+TT.sizes r
end
mutual
def TT.ok (P:Program):TT→TypeId→Bool
 | .bool,t=>match P.underlying t with
  | some .bool=>true
  | _=>false
 | .int k,t=>match P.underlying t with
  | some (.int k')=>decide (k'=k)
  | _=>false
 | .str,t=>match P.underlying t with
  | some .string=>true
  | _=>false
 | .slice e,t=>match P.underlying t with
  | some (.slice u)=>e.ok P u && (decide (P.cellsOf u=e.size) && (decide (0 < e.size) && decide (0 < P.bytesOf u)))
  | _=>false
 | .struct fs,t=>match P.underlying t with
  | some (.struct fl)=>TT.oks P fs fl.toList 0 && decide (P.cellsOf t=TT.sizes fs)
  | _=>false
def TT.oks (P:Program):List TT→List Field→Nat→Bool
 | [],[],_=>true
 | t :: r,f :: fl,o=>decide (f.offset=o) && (t.ok P f.type && (decide (P.cellsOf f.type=t.size) && TT.oks P r fl (o+t.size)))
 | [],_ :: _,_=>false
 | _ :: _,[],_=>false
end
mutual
def TT.Has:TT→List AV→Prop
 | .bool,cs=>∃ b,cs=[.bool b]
 | .int k,cs=>∃ n,cs=[.int k n]∧(Lit.int k n).wf=true
 | .str,cs=>∃ s,cs=[.str s]∧s.length≤140737488355328
 | .slice e,cs=>∃ nl es,cs=[slv nl es]∧es.length≤140737488355328∧∀ v∈es,v.isAgg=e.agg∧TT.Has e v.cells
 | .struct fs,cs=>TT.Hass fs cs
def TT.Hass:List TT→List AV→Prop
 | [],cs=>cs=[]
 | t :: r,cs=>∃ a b,cs=a++b∧TT.Has t a∧TT.Hass r b
end
def IsT (w:World) (avs:List AV) (cs:List Value) (n:Nat):Prop:=
 avs.length=n∧cs.length=n∧∀ j,j < n→(cs.getD j undef).oneCell'=true∧VRel w (G0 w) NoLoc (avs.getD j .top) (cs.getD j undef)
theorem isT_one {w:World} {a:AV} {c:Value} (h1:c.oneCell'=true) (h2:VRel w (G0 w) NoLoc a c):IsT w [a] [c] 1:=⟨rfl,rfl,fun j hj=>by
 have:j=0:=by omega
 subst this
 exact ⟨h1,h2⟩⟩
def TT.of (t:TT) (cs:List AV):AV:=if t.agg then .agg cs else cs.getD 0 .top
theorem TT.of_cells {t:TT} {cs:List AV} (h:t.Has cs):(t.of cs).cells=cs∧(t.of cs).isAgg=t.agg:=by
 cases t with
 | bool=>obtain ⟨b,rfl⟩:=h;exact ⟨rfl,rfl⟩
 | int k=>obtain ⟨n,rfl,_⟩:=h;exact ⟨rfl,rfl⟩
 | str=>obtain ⟨s,rfl,_⟩:=h;exact ⟨rfl,rfl⟩
 | slice e=>
  obtain ⟨nl,es,rfl,_⟩:=h
  exact ⟨by simp [TT.of,TT.agg,slv_cells],by simp [TT.of,TT.agg,slv_agg]⟩
 | struct fs=>exact ⟨rfl,rfl⟩
section
variable {P:Program}
theorem weightsAll_mem' {H:Type} {e:TypeId} {es:List (DataW H×List MemPlace)} {i n:Nat} (hi:i < es.length) (hn:n∈DataW.weights P e es[i].1):n∈DataW.weightsAll P e (es.map (·.1)):=by
 induction es generalizing i with
 | nil=>simp at hi
 | cons e es ih=>
  simp only [List.map_cons,DataW.weightsAll,List.mem_append]
  cases i with
  | zero=>exact .inl hn
  | succ i=>exact .inr (ih (by simpa using hi) hn)
variable {H:Type} {enc:TypeId×Value→H} {w:World} {base:Nat} {spare:Nat→Bool} {held:Bool}
theorem read_slice {e:TT} {t u:TypeId} {n:Nat} {cs:List Value} {y:DataW H×List MemPlace} (hu:P.underlying t=some (.slice u)) (hc:P.cellsOf u=e.size) (h0:0 < e.size) (hb0:0 < P.bytesOf u)
  (ih:∀ m,m < n→∀ (cs:List Value) (x:DataW H×List MemPlace),DataW.trod enc P w base spare held m u cs=some x→(∀ n∈x.1.weights P u,n≤reachBytes)→∃ avs,e.Has avs∧IsT w avs cs e.size)
  (h:DataW.trod enc P w base spare held n t cs=some y) (hw:∀ n∈y.1.weights P t,n≤reachBytes):∃ avs,(TT.slice e).Has avs∧IsT w avs cs 1:=by
 have rb:reachBytes≤140737488355328:=by decide
 rcases DataW.trod_slice hu h with ⟨rfl,_⟩ | ⟨a,len,cap,elems,rest,m,rfl,rfl,rfl,hb,hle,hcap,hel,hget,_⟩
 ·exact ⟨[slv true []],⟨true,[],rfl,by simp,by simp⟩,isT_one rfl (.nils _)⟩
 ·have hS:DataW.weights P t (.slice (elems.map (·.1)) (rest.map (·.1)))=(elems.length+rest.length) * P.bytesOf u :: (DataW.weightsAll P u (elems.map (·.1))++DataW.weightsAll P u (rest.map (·.1))):=by
   simp [DataW.weights,hu]
  have hW:∀ n∈DataW.weights P t (.slice (elems.map (·.1)) (rest.map (·.1))),n≤reachBytes:=hw
  rw [hS] at hW
  have hlen:(elems.length+rest.length) * P.bytesOf u≤reachBytes:=hW _ (by simp)
  have hlen2:elems.length≤140737488355328:=by
   have:=Nat.le_mul_of_pos_right (elems.length+rest.length) hb0
   omega
  have hall:∀ n∈DataW.weightsAll P u (elems.map (·.1)),n≤reachBytes:=fun n hn=>hW n (by simp [hn])
  have each:∀ i,i < len→∃ av:List AV,∃ cs',w.cells? base (a.add (i * e.size)) e.size=some cs'∧e.Has av∧IsT w av cs' e.size:=fun i hi=>by
   have h1:=hget i hi
   rw [hc] at h1
   have hi':i < elems.length:=by omega
   rw [List.getElem?_eq_getElem hi'] at h1
   obtain ⟨cs',h2,h3⟩:=Option.bind_eq_some_iff.1 h1
   obtain ⟨av,h4,h5⟩:=ih m (by omega) cs' _ h3 fun n hn=>hall n (weightsAll_mem' hi' hn)
   exact ⟨av,cs',h2,h4,h5⟩
  obtain ⟨l,hl1,hl2⟩:=list_of len each
  have hmem:∀ v∈l.map e.of,v.isAgg=e.agg∧e.Has v.cells:=fun v hv=>by
   obtain ⟨av,hav,rfl⟩:=List.mem_map.1 hv
   obtain ⟨i,hi⟩:=List.getElem?_of_mem hav
   obtain ⟨_,_,h4,_⟩:=hl2 i av hi
   obtain ⟨k1,k2⟩:=TT.of_cells h4
   exact ⟨k2,by rw [k1];exact h4⟩
  refine ⟨[slv false (l.map e.of)],⟨false,l.map e.of,rfl,by simp;omega,hmem⟩,isT_one rfl ?_⟩
  cases len with
  | zero=>
   have:l=[]:=List.eq_nil_of_length_eq_zero hl1
   subst this
   exact .lst0 _ _ _
  | succ len=>
   have hne:slv false (l.map e.of)=.lst (l.map e.of):=by cases l with
    | nil=>simp at hl1
    | cons _ _=>rfl
   rw [hne]
   have hlen2:(l.map e.of).length=len+1:=by simp [hl1]
   have cell:∀ i,i < len+1→∃ av cs',l[i]?=some av∧cs'.length=e.size∧(∀ j,j < e.size→w.cell? ((a.add (i * e.size)).add j)=cs'[j]?)∧e.Has av∧IsT w av cs' e.size:=fun i hi=>by
    obtain ⟨av,hit⟩:∃ av,l[i]?=some av:=⟨_,List.getElem?_eq_getElem (by omega)⟩
    obtain ⟨cs',h1,h2,h5⟩:=hl2 i av hit
    obtain ⟨_,h3,h4⟩:=World.cells?_some h1
    exact ⟨av,cs',hit,h3,h4,h2,h5⟩
   have spot:a.spot=none:=by
    obtain ⟨av,cs',_,h3,h4,_⟩:=cell 0 (by omega)
    have:=h4 0 h0
    rw [List.getElem?_eq_getElem (by omega)] at this
    have:=(cell_block this).1
    simpa [Addr.add] using this
   obtain ⟨b,off,sp⟩:=a
   simp only at spot
   subst spot
   have addr:∀ i j,((⟨b,off,none⟩:Addr).add (i * e.size)).add j=⟨b,off+i * e.size+j,none⟩:=fun i j=>by
    unfold Addr.add
    split<;>split<;>simp_all
   have got:∀ i j,i < len+1→j < e.size→∃ v av,w.cell? ⟨b,off+i * e.size+j,none⟩=some v∧l[i]?=some av∧e.Has av∧av.length=e.size∧v.oneCell'=true∧VRel w (G0 w) NoLoc (av.getD j .top) v:=fun i j hi hj=>by
    obtain ⟨av,cs',hit,h3,h4,h5,h7⟩:=cell i hi
    have h6:=h4 j hj
    rw [addr] at h6
    have h9:cs'[j]?=some (cs'.getD j undef):=by
     have:j < cs'.length:=by omega
     simp [List.getD_eq_getElem?_getD,this]
    rw [h9] at h6
    exact ⟨_,av,h6,hit,h5,h7.1,(h7.2.2 j hj).1,(h7.2.2 j hj).2⟩
   have at_:∀ i av,l[i]?=some av→e.Has av→((l.map e.of).getD i .top).cells=av:=fun i av hi ha=>by
    rw [List.getD_eq_getElem?_getD,List.getElem?_map,hi]
    exact (TT.of_cells ha).1
   rw [←hlen2]
   refine VRel.lst _ (l.map e.of) b off cap e.size (fun i j=>(w.cell? ⟨b,off+i * e.size+j,none⟩).getD undef) (by omega) (fun i hi=>?_) (fun i j hi hj=>?_) (fun i j hi hj=>?_)
   ·obtain ⟨v,av,_,h2,h3,h4,_⟩:=got i 0 (by omega) h0
    rw [at_ i av h2 h3];exact h4
   ·obtain ⟨v,av,h1,h2,h3,h4,h5,h6⟩:=got i j (by omega) hj
    rw [h1]
    exact ⟨rfl,(cell_block h1).2,h5⟩
   ·obtain ⟨v,av,h1,h2,h3,h4,h5,h6⟩:=got i j (by omega) hj
    rw [at_ i av h2 h3]
    simp only [h1]
    exact h6
theorem read_fields {n:Nat} {cs:List Value}
  (ih:∀ (tt:TT) (t:TypeId) (cs:List Value) (x:DataW H×List MemPlace),tt.ok P t=true→P.cellsOf t=tt.size→DataW.trod enc P w base spare held n t cs=some x→(∀ n∈x.1.weights P t,n≤reachBytes)→∃ avs,tt.Has avs∧IsT w avs cs tt.size) :
  ∀ (fs:List TT) (fl:List Field) (o:Nat) (xs:List (DataW H×List MemPlace)),TT.oks P fs fl o=true→xs.length=fl.length →
   (∀ (i:Nat) (f:Field),fl[i]?=some f→DataW.trod enc P w base spare held n f.type ((cs.drop f.offset).take (P.cellsOf f.type))=xs[i]?) →
   (∀ n∈DataW.weightsEach P (fl.map (·.type)) (xs.map (·.1)),n≤reachBytes)→o+TT.sizes fs≤cs.length →
   ∃ avs,TT.Hass fs avs∧avs.length=TT.sizes fs∧∀ j,j < TT.sizes fs→(cs.getD (o+j) undef).oneCell'=true∧VRel w (G0 w) NoLoc (avs.getD j .top) (cs.getD (o+j) undef)
 | [],[],o,xs,hok,hx,hf,hw,ho=>⟨[],rfl,rfl,fun j hj=>by simp [TT.sizes] at hj⟩
 | t :: r,f :: fl,o,[],hok,hx,hf,hw,ho=>by simp at hx
 | t :: r,f :: fl,o,x :: xs,hok,hx,hf,hw,ho=>by
  simp only [TT.oks,Bool.and_eq_true,decide_eq_true_eq] at hok
  obtain ⟨h1,h2,h3,h4⟩:=hok
  simp only [TT.sizes] at ho ⊢
  have f0:=hf 0 f rfl
  rw [h1,h3] at f0
  obtain ⟨a,a1,a2,a3,a4⟩:=ih t f.type _ x h2 h3 (by simpa using f0) fun n hn=>hw n (by simp [DataW.weightsEach,hn])
  obtain ⟨b,b1,b2,b3⟩:=read_fields ih r fl (o+t.size) xs h4 (by simpa using hx) (fun i g hg=>by simpa using hf (i+1) g (by simpa using hg))
   (fun n hn=>hw n (by simp [DataW.weightsEach,hn])) (by omega)
  refine ⟨a++b,⟨a,b,rfl,a1,b1⟩,by simp [a2,b2],fun j hj=>?_⟩
  by_cases hjt:j < t.size
  ·have:=a4 j hjt
   have e1:((cs.drop o).take t.size).getD j undef=cs.getD (o+j) undef:=by
    simp [List.getD_eq_getElem?_getD,List.getElem?_take,hjt]
   have e2:(a++b).getD j .top=a.getD j .top:=by
    simp [List.getD_eq_getElem?_getD,List.getElem?_append_left (show j < a.length by omega)]
   rw [e1] at this
   rw [e2]
   exact this
  ·have:=b3 (j - t.size) (by omega)
   have e1:o+t.size+(j - t.size)=o+j:=by omega
   have e2:(a++b).getD j .top=b.getD (j - t.size) .top:=by
    rw [List.getD_eq_getElem?_getD,List.getElem?_append_right (by omega),a2,List.getD_eq_getElem?_getD]
   rw [e1] at this
   rw [e2]
   exact this
 | [],_ :: _,o,xs,hok,hx,hf,hw,ho=>by simp [TT.oks] at hok
 | _ :: _,[],o,xs,hok,hx,hf,hw,ho=>by simp [TT.oks] at hok
theorem read_tt:∀ (fuel:Nat) (tt:TT) (t:TypeId) (cs:List Value) (x:DataW H×List MemPlace),tt.ok P t=true→DataW.trod enc P w base spare held fuel t cs=some x→(∀ n∈x.1.weights P t,n≤reachBytes) →
  ∃ avs,tt.Has avs∧IsT w avs cs tt.size:=by
 have rb:reachBytes≤140737488355328:=by decide
 intro fuel
 induction fuel using Nat.strongRecOn with
 | ind fuel ih=>
  intro tt t cs x hok h hw
  cases tt with
  | bool=>
   simp only [TT.ok] at hok
   split at hok
   ·rename_i hu
    obtain ⟨b,rfl,rfl⟩:=DataW.trod_bool hu h
    exact ⟨[.bool b],⟨b,rfl⟩,isT_one rfl (.bool _ _)⟩
   ·cases hok
  | int k=>
   simp only [TT.ok] at hok
   split at hok
   ·rename_i k' hu
    simp only [decide_eq_true_eq] at hok
    subst hok
    obtain ⟨n,rfl,rfl,hwf⟩:=DataW.trod_int hu h
    exact ⟨[.int k' n],⟨n,rfl,hwf⟩,isT_one rfl (.int _ _ _)⟩
   ·cases hok
  | str=>
   simp only [TT.ok] at hok
   split at hok
   ·rename_i hu
    obtain ⟨s,rfl,rfl,_⟩:=DataW.trod_string hu h
    have:=hw s.data.toList.length (by simp [DataW.weights])
    exact ⟨[.str s.data.toList],⟨s.data.toList,rfl,by omega⟩,isT_one rfl (.str _ s.data.toList)⟩
   ·cases hok
  | slice e=>
   simp only [TT.ok] at hok
   split at hok
   ·rename_i u hu
    simp only [Bool.and_eq_true,decide_eq_true_eq] at hok
    exact read_slice hu hok.2.1 hok.2.2.1 hok.2.2.2 (fun m hm cs x h1 h2=>ih m hm e u cs x hok.1 h1 h2) h hw
   ·cases hok
  | struct fs=>
   simp only [TT.ok] at hok
   split at hok
   ·rename_i fl hu
    simp only [Bool.and_eq_true,decide_eq_true_eq] at hok
    obtain ⟨xs,n,rfl,rfl,hl,hlen,hf⟩:=DataW.trod_struct hu h
    rw [hok.2] at hl
    have hw2:∀ n∈DataW.weights P t (.agg (xs.map (·.1))),n≤reachBytes:=hw
    have hE:DataW.weights P t (.agg (xs.map (·.1)))=DataW.weightsEach P (fl.toList.map (·.type)) (xs.map (·.1)):=by simp [DataW.weights,hu]
    rw [hE] at hw2
    obtain ⟨avs,a1,a2,a3⟩:=read_fields (fun tt t cs x h1 _ h2 h3=>ih n (by omega) tt t cs x h1 h2 h3) fs fl.toList 0 xs hok.1 (by simpa using hlen) (fun i f hi=>hf i f (by simpa using hi)) hw2 (by omega)
    exact ⟨avs,a1,a2,hl,fun j hj=>by simpa using a3 j hj⟩
   ·cases hok
theorem arg_tt (tt:TT) {t:TypeId} {v:Value} {d:DataW H} {ps:List MemPlace} {b:Nat} (hok:tt.ok P t=true) (hs:tt.agg=true→∃ cs,v=.agg cs) (hs2:tt.agg=false→v.oneCell'=true)
  (h:DataW.Trod enc P w b spare held t v d ps) (hz:∀ n∈d.weights P t,n≤reachBytes):∃ av:AV,tt.Has av.cells∧av.isAgg=tt.agg∧VRel w (G0 w) NoLoc av v:=by
 obtain ⟨fuel,hf⟩:=h
 obtain ⟨avs,h1,h2,h3,h4⟩:=read_tt fuel tt t _ _ hok hf hz
 obtain ⟨k1,k2⟩:=TT.of_cells h1
 refine ⟨tt.of avs,by rw [k1];exact h1,k2,?_⟩
 cases ha:tt.agg with
 | true=>
  obtain ⟨cs,rfl⟩:=hs ha
  simp only [Value.cells] at h3 h4
  have h5:∀ j,j < avs.length→(cs.getD j undef).oneCell'=true∧VRel w (G0 w) NoLoc (avs.getD j .top) (cs.getD j undef):=fun j hj=>by
   have:=h4 j (by omega)
   simpa [List.getD_eq_getElem?_getD,Array.getD_eq_getD_getElem?] using this
  have e:tt.of avs=.agg avs:=by simp [TT.of,ha]
  rw [e]
  exact .agg _ _ _ (by rw [h2];simpa using h3) (fun i hi=>(h5 i hi).1) (fun i hi=>(h5 i hi).2)
 | false=>
  have e:tt.of avs=avs.getD 0 .top:=by simp [TT.of,ha]
  have hc:v.cells=#[v]:=by
   have:=hs2 ha
   cases v<;>simp_all [Value.cells,Value.oneCell']
  rw [hc] at h3 h4
  simp at h3
  have:=(h4 0 (by omega)).2
  rw [e]
  simpa using this
theorem shape_of {tt:TT} {t:TypeId} {v:Value} {base0:Nat} (hok:tt.ok P t=true) (hv:Value.okWide P w .any base0 t v):(tt.agg=true→∃ cs,v=.agg cs)∧(tt.agg=false→v.oneCell'=true):=by
 cases tt with
 | bool=>
  refine ⟨fun e=>absurd e (by simp [TT.agg]),fun _=>?_⟩
  simp only [TT.ok] at hok
  split at hok
  ·rename_i hu
   obtain ⟨b,rfl⟩:=WideShapes.okWide_bool hu hv
   rfl
  ·cases hok
 | int k=>
  refine ⟨fun e=>absurd e (by simp [TT.agg]),fun _=>?_⟩
  simp only [TT.ok] at hok
  split at hok
  ·rename_i hu
   obtain ⟨b,rfl⟩:=WideShapes.okWide_int hu hv
   rfl
  ·cases hok
 | str=>
  refine ⟨fun e=>absurd e (by simp [TT.agg]),fun _=>?_⟩
  simp only [TT.ok] at hok
  split at hok
  ·rename_i hu
   obtain ⟨b,rfl⟩:=WideShapes.okWide_string hu hv
   rfl
  ·cases hok
 | slice e=>
  refine ⟨fun e=>absurd e (by simp [TT.agg]),fun _=>?_⟩
  simp only [TT.ok] at hok
  split at hok
  ·rename_i hu
   obtain ⟨a,l,c,rfl⟩:=WideShapes.okWide_slice hu hv
   rfl
  ·cases hok
 | struct fs=>
  refine ⟨fun _=>?_,fun e=>absurd e (by simp [TT.agg])⟩
  simp only [TT.ok] at hok
  split at hok
  ·rename_i hu
   obtain ⟨cs,rfl,_⟩:=WideShapes.okWide_struct hu hv
   exact ⟨_,rfl⟩
  ·cases hok
theorem arg_of (tt:TT) {t:TypeId} {v:Value} {d:DataW H} {ps:List MemPlace} {b base0:Nat} (hok:tt.ok P t=true) (hv:Value.okWide P w .any base0 t v)
  (h:DataW.Trod enc P w b spare held t v d ps) (hz:∀ n∈d.weights P t,n≤reachBytes):∃ av:AV,tt.Has av.cells∧av.isAgg=tt.agg∧VRel w (G0 w) NoLoc av v:=
 arg_tt tt hok (shape_of hok hv).1 (shape_of hok hv).2 h hz
/- What has a shape. -/
theorem of_agg {v:AV} (h:v.isAgg=true):v=.agg v.cells:=by cases v<;>first | rfl | cases h
theorem of_one {v c:AV} (h:v.isAgg=false) (hc:v.cells=[c]):v=c:=by cases v<;>simp_all [AV.cells,AV.isAgg]
theorem rows_of {α:Type} {av:α→AV} {e:TT} {ok:α→Prop} (H:∀ v:AV,v.isAgg=e.agg→e.Has v.cells→∃ x,v=av x∧ok x):∀ es:List AV,(∀ v∈es,v.isAgg=e.agg∧e.Has v.cells)→∃ l:List α,es=l.map av∧∀ x∈l,ok x
 | [],_=>⟨[],rfl,fun x hx=>by cases hx⟩
 | v :: r,h=>by
  obtain ⟨x,rfl,hx⟩:=H v (h v (by simp)).1 (h v (by simp)).2
  obtain ⟨l,rfl,hl⟩:=rows_of H r (fun u hu=>h u (by simp [hu]))
  exact ⟨x :: l,rfl,fun y hy=>by
   rcases List.mem_cons.1 hy with rfl | hy
   ·exact hx
   ·exact hl y hy⟩
theorem has_str {v:AV} (h1:v.isAgg=TT.str.agg) (h2:TT.str.Has v.cells):∃ s:List UInt8,v=.str s∧s.length≤140737488355328:=by
 obtain ⟨s,hs,hl⟩:=h2
 exact ⟨s,of_one h1 hs,hl⟩
theorem has_slice {α:Type} {av:α→AV} {e:TT} {ok:α→Prop} (H:∀ v:AV,v.isAgg=e.agg→e.Has v.cells→∃ x,v=av x∧ok x) {v:AV} (h1:v.isAgg=(TT.slice e).agg) (h2:(TT.slice e).Has v.cells) :
  ∃ (nl:Bool) (l:List α),v=slv nl (l.map av)∧l.length≤140737488355328∧∀ x∈l,ok x:=by
 obtain ⟨nl,es,hs,hl,he⟩:=h2
 obtain ⟨l,rfl,hk⟩:=rows_of H es he
 exact ⟨nl,l,of_one h1 hs,by simpa using hl,hk⟩
theorem has_int {k:IntKind} {v:AV} (h1:v.isAgg=(TT.int k).agg) (h2:(TT.int k).Has v.cells):∃ n:Int,v=.int k n∧(Lit.int k n).wf=true:=by
 obtain ⟨n,hs,hl⟩:=h2
 exact ⟨n,of_one h1 hs,hl⟩
theorem has_bool {v:AV} (h1:v.isAgg=TT.bool.agg) (h2:TT.bool.Has v.cells):∃ b:Bool,v=.bool b:=by
 obtain ⟨b,hs⟩:=h2
 exact ⟨b,of_one h1 hs⟩
theorem has_cons {t:TT} {r:List TT} {cs:List AV} (h:TT.Hass (t :: r) cs):∃ a b,cs=a++b∧t.Has a∧TT.Hass r b:=h
theorem has_nil {cs:List AV} (h:TT.Hass [] cs):cs=[]:=h
theorem has_one {t:TT} {cs:List AV} (ht:t.agg=false) (h:t.Has cs):∃ v:AV,cs=[v]∧v.isAgg=t.agg∧t.Has v.cells:=by
 have hk:=TT.of_cells h
 refine ⟨t.of cs,?_,hk.2,by rw [hk.1];exact h⟩
 cases t with
 | struct fs=>cases ht
 | bool=>obtain ⟨b,rfl⟩:=h;rfl
 | int k=>obtain ⟨n,rfl,_⟩:=h;rfl
 | str=>obtain ⟨n,rfl,_⟩:=h;rfl
 | slice e=>obtain ⟨nl,es,rfl,_⟩:=h;rfl
end
end Go.Ab
