/-
  Slices that are read, appended to, made.
-/
import Derived.Test.YtjnomgdildcbhaaGreatDoorAbMem
import Derived.Lib.AppendStr
set_option linter.all false
namespace Go.Ab
open Go.RowKit
variable{P:Program}{w:World}{G:Gm}{L:Loc->Prop}{h:Heap}
theorem jI{sz:Nat}{es:List AV}(hs:sized sz es=true){i:Nat}(hi:i<es.length):(es.getD i .top).cells.length=sz:=by
 unfold sized at hs;rw[afL]at hs;have:=hs es[i] (agT hi);simpa[afk,hi]using this
structure Flat (w:World)(G:Gm)(sz:Nat)(es:List AV)(flat:List Value):Prop where
 len:flat.length=es.length*sz
 one:∀u∈flat,u.oneCell'=true
 sized:∀i,i<es.length->(es.getD i .top).cells.length=sz
 rel:∀i j,i<es.length->j<sz->aD w G bM ((es.getD i .top).cells.getD j .top) (flat.getD (i*sz+j) undef)
theorem fJ{i j n sz:Nat}(hi:i<n)(hj:j<sz):i*sz+j<n*sz:=by
 have:(i+1)*sz<=n*sz:=afK _ hi;rw[afQ,age]at this;omega
theorem oJ{α:Type}(d:α)(l:List α)(n j:Nat)(hj:j<n):(l.take n).getD j d=l.getD j d:=by
 simp only[afk];rw[af2 hj]
theorem Bb(s:Sim w G h){v:AV}{x:Value}(hv:aD w G (dom h) v x){es:List AV}(he:dW v h=some es){sz:Nat}(hsz:0<sz)(hsd:sized sz es=true) :
  ∃p c flat,x=.slice p es.length c∧Flat w G sz es flat∧(p=none->es=[])∧∀j u,flat[j]?=some u->∃ad,p=some ad∧w.cell? (ad.add j)=some u:=by
 cases hv with
 |ay=>
  simp only[dW,fS]at he;subst he;exact⟨none,0,[],rfl,⟨by simp,by simp,by simp,by simp⟩,λ_=>rfl,by simp⟩
 |emp _ a=>
  simp only[dW,fS]at he;subst he;exact⟨a,0,[],rfl,⟨by simp,by simp,by simp,by simp⟩,λ_=>rfl,by simp⟩
 |mU _ a c=>
  simp only[dW,fS]at he;subst he;exact⟨a,c,[],rfl,⟨by simp,by simp,by simp,by simp⟩,λ_=>rfl,by simp⟩
 |lst _ es' b off c sz' vf hle hs hc hv=>
  simp only[dW,fS]at he;subst he;have DM:∀i,i<es'.length->sz'=sz:=λi hi=>by rw[<-hs i hi,jI hsd hi]
  have hfl:∀k,k<es'.length*sz->k / sz<es'.length∧k % sz<sz∧k / sz*sz+k % sz=k:=λk hk=>by
   refine⟨Nat.div_lt_of_lt_mul (by rwa[agi]at hk),Nat.mod_lt _ hsz,?_⟩;rw[agi];exact Nat.div_add_mod k sz
  refine⟨some ⟨b,off,none⟩,c,(List.range (es'.length*sz)).map λk=>vf (k / sz) (k % sz),rfl,⟨by simp,λu hu=>?_,λi hi=>jI hsd hi,λi j hi hj=>?_⟩,(λe=>by cases e),λj u hj=>⟨_,rfl,?_⟩⟩
  ·simp only[afG,List.mem_range]at hu;obtain⟨k,hk,rfl⟩:=hu;obtain⟨h1,h2,h3⟩:=hfl k hk;exact (hc _ _ h1 (by rw[DM _ h1];exact h2)).2.2
  ·have hk:=fJ hi hj;have e1:((List.range (es'.length*sz)).map λk=>vf (k / sz) (k % sz)).getD (i*sz+j) undef=vf i j:=by
    simp only[afk,afy,ag3 hk,af7,agj];have d1:(i*sz+j) / sz=i:=by
     rw[agi,Nat.mul_add_div hsz,Nat.div_eq_of_lt hj,af1]
    have d2:(i*sz+j) % sz=j:=by
     rw[agi,Nat.mul_add_mod,Nat.mod_eq_of_lt hj]
    rw[d1,d2]
   rw[e1];exact hv i j hi (by rw[DM i hi];exact hj)
  ·have hk:j<es'.length*sz:=by
    have:=(aft.1 hj).1;simpa using this
   obtain⟨h1,h2,h3⟩:=hfl j hk;simp only[afy,ag3 hk,af7,fS]at hj;rw[<-hj,fU];have:=(hc (j / sz) (j % sz) h1 (by rw[DM _ h1];exact h2)).1;rw[DM _ h1,af5,h3]at this;exact this
 |own _ a n m x hLa hm hle ho hx=>
  simp only[dW]at he;split at he
  ·rename_i tb s' vw es' hb;split at he
   ·rename_i hn;injection he with he;subst he
    obtain⟨h0,hd⟩:=s.blk a _ hb;have hmn:m=n:=by rw[hm]at h0;injection h0 with h0;omega
    have hxe:=hx hmn;rcases hd with⟨h1,h2⟩|⟨b,c,h1,h2,h3,h4,h5,h6,h7,h8⟩
    ·subst h2;simp only[iO]at hn;subst hn;unfold dD at hxe;rw[h1]at hxe;exact⟨none,0,[],hxe,⟨by simp,by simp,by simp,by simp⟩,λ_=>rfl,by simp⟩
    ·unfold dD at hxe;rw[h1]at hxe;have DM:∀i,i<es'.length->s'=sz:=λi hi=>by rw[<-(h7 i hi).1,jI hsd hi]
     have hcs:es'.length*sz<=c.size:=by
      rcases Nat.eq_zero_or_pos es'.length with z|z
      ·rw[z];simp
      ·rw[h3,DM 0 z];exact afK _ h5
     refine⟨some ⟨b,0,none⟩,G.cap a,c.toList.take (es'.length*sz),by rw[hxe,hn],⟨by simp;omega,λu hu=>?_,λi hi=>jI hsd hi,λi j hi hj=>?_⟩,(λe=>by cases e),λj u hj=>⟨_,rfl,?_⟩⟩
     ·obtain⟨k,hk,rfl⟩:=agB hu;simp only[agw,afP]at hk;have hk':k<es'.length*sz:=by omega
      have hi:k / sz<es'.length:=Nat.div_lt_of_lt_mul (by rwa[agi]at hk');have hkk:k / sz*sz+k % sz=k:=by rw[agi];exact Nat.div_add_mod k sz
      have:=((h7 (k / sz) hi).2 (k % sz) (by rw[DM _ hi];exact Nat.mod_lt _ hsz)).1;rw[DM _ hi,hkk]at this;rw[afx,afW (by omega)]at this;simpa using this
     ·rw[oJ _ _ _ _ (fJ hi hj),getD_toList undef c];have:=((h7 i hi).2 j (by rw[DM i hi];exact hj)).2;rwa[DM i hi]at this
     ·have hk:j<es'.length*sz:=by
       have:=(aft.1 hj).1;simp at this;omega
      rw[af2 hk]at hj;rw[fU,afu,cell_of_row w b j c tb (0,0) h2];simpa using hj
   ·cases he
  ·cases he
 |_=>simp only[dW]at he;cases he
theorem Flat.arr{sz:Nat}{es:List AV}{flat:List Value}(k:Flat w G sz es flat){c:Array Value}(hc:c.toList.take (es.length*sz)=flat) :
  ∀i,i<es.length->(es.getD i .top).cells.length=sz∧∀j,j<sz->(c.getD (i*sz+j) undef).oneCell'=true∧aD w G bM ((es.getD i .top).cells.getD j .top) (c.getD (i*sz+j) undef):=by
 intro i hi;refine⟨k.sized i hi,λj hj=>?_⟩;have hk:=fJ hi hj;have e1:c.getD (i*sz+j) undef=flat.getD (i*sz+j) undef:=by
  rw[<-hc,oJ _ _ _ _ hk,getD_toList undef c]
 rw[e1];refine⟨k.one _ ?_,k.rel i j hi hj⟩;have hlt:i*sz+j<flat.length:=by rw[k.len];exact hk
 rw[afk,afD hlt];exact agT hlt
theorem Flat.append{sz:Nat}{es ds:List AV}{f g:List Value}(k:Flat w G sz es f)(l:Flat w G sz ds g):Flat w G sz (es++ds) (f++g) where
 len:=by rw[afr,k.len,l.len,afr,afQ]
 one u hu:=by
  rcases afR.1 hu with hu|hu
  ·exact k.one u hu
  ·exact l.one u hu
 sized i hi:=by
  rw[afr]at hi;simp only[afk,List.getElem?_append];split
  ·rename_i h1;simpa[afk]using k.sized i h1
  ·rename_i h1;simpa[afk]using l.sized (i-es.length) (by omega)
 rel i j hi hj:=by
  rw[afr]at hi;by_cases c:i<es.length
  ·have hlt:=fJ c hj;have e1:(es++ds).getD i .top=es.getD i .top:=by simp only[afk];rw[afF c]
   have e2:(f++g).getD (i*sz+j) undef=f.getD (i*sz+j) undef:=by simp only[afk];rw[afF (by rw[k.len];exact hlt)]
   rw[e1,e2];exact k.rel i j c hj
  ·have e1:(es++ds).getD i .top=ds.getD (i-es.length) .top:=by simp only[afk];rw[afT (by omega)]
   have hge:es.length*sz<=i*sz:=afK _ (by omega);have e2:(f++g).getD (i*sz+j) undef=g.getD ((i-es.length)*sz+j) undef:=by
    simp only[afk];rw[afT (by rw[k.len];omega),k.len,Nat.sub_mul]
    congr 2
    omega
   rw[e1,e2];exact l.rel (i-es.length) j (by omega) hj
theorem Flat.mono{w':World}{G':Gm}{sz:Nat}{es:List AV}{f:List Value}(k:Flat w G sz es f)(hI:aW w G w' G'):Flat w' G' sz es f:=
 ⟨k.len,k.one,k.sized,λi j hi hj=>(k.rel i j hi hj).mono hI λ_ e=>e.elim⟩
theorem Flat.Su{sz:Nat}{es:List AV}{c:Array Value}(hcs:es.length*sz<=c.size)
  (h7:∀i,i<es.length->(es.getD i .top).cells.length=sz∧∀j,j<sz->(c.getD (i*sz+j) undef).oneCell'=true∧aD w G bM ((es.getD i .top).cells.getD j .top) (c.getD (i*sz+j) undef)) (hsz:0<sz) :
  Flat w G sz es (c.toList.take (es.length*sz)) where
 len:=by simp;omega
 one u hu:=by
  obtain⟨k,hk,rfl⟩:=agB hu;simp only[agw,afP]at hk;have hk':k<es.length*sz:=by omega
  have hi:k / sz<es.length:=Nat.div_lt_of_lt_mul (by rwa[agi]at hk');have hkk:k / sz*sz+k % sz=k:=by rw[agi];exact Nat.div_add_mod k sz
  have:=((h7 (k / sz) hi).2 (k % sz) (Nat.mod_lt _ hsz)).1;rw[hkk]at this;rw[afx,afW (by omega)]at this;simpa using this
 sized i hi:=(h7 i hi).1
 rel i j hi hj:=by
  rw[oJ _ _ _ _ (fJ hi hj),getD_toList undef c];exact ((h7 i hi).2 j hj).2
structure pZ (w w':World)(old:Option Nat)(el:TypeId)(sz:Nat)(xs:List Value)(n g cap:Nat)(cur:Array Value):Prop where
 os:w'.os=w.os
 tape:w'.tape=w.tape
 output:w'.output=w.output
 size:w.heap.size<=w'.heap.size
 here:w'.heap[g]?=some (.cells cur el (0,0))
 rows:cur.size=cap*sz
 fits:n<=cap
 most:cap<=maxLen
 take:cur.toList.take (n*sz)=xs
 other:∀k,k<w.heap.size->k≠g->w'.heap[k]?=w.heap[k]?
 which:old=some g∨w.heap.size<=g
theorem Gu{t ty el:TypeId}{i:TypeInfo}{z:Value}(ht:P.underlying t=some (.slice el))(hi:P.info? el=some i)(hz:i.zero=some z)(hzs:z.cells.size=i.size)(hsz:0<i.size)
  {v:Value} {n:Nat} {xs:List Value} (hxl:xs.length=n*i.size)
  (hv:(v=.slice none 0 0∧n=0)∨(∃ad,v=.slice (some ad) 0 0∧n=0) ∨
   ∃b cap c,v=.slice (some ⟨b,0,none⟩) n cap∧w.heap[b]?=some (.cells c el (0,0))∧c.size=cap*i.size∧n<=cap∧cap<=maxLen∧c.toList.take (n*i.size)=xs)
  {ad:Addr} {m k:Nat} {news:List Value} (hl:news.length=m*i.size) (hnews:∀j u,news[j]?=some u->w.cell? (ad.add j)=some u) (h1:∀u∈news,u.oneCell'=true)
  (hm:0<m) (hb:(n+m)*i.bytes<=room) (hr:n+m<=room) :
  ∃w' g cap cur,(Builtin.append_ #[t,t] ty #[v,.slice (some ad) m k]).run P w=.ok (.slice (some ⟨g,0,none⟩) (n+m) cap) w' ∧
   pZ w w' (match v with|.slice (some p) _ (_+1)=>some p.block|_=>none) el i.size (xs++news) (n+m) g cap cur:=by
 have hroom:n+m<=1099511627776:=hr;have hbytes:(n+m)*i.bytes<=1099511627776:=hb;have hlen:(xs++news).length=(n+m)*i.size:=by rw[afr,hxl,hl,afQ]
 have grown:∀(old:Nat) (ob:Option Nat),pZ w (w.drew.alloc (.cells (xs.toArray++news.toArray++Builtin.zeroCells z.cells (grownCap w (n+m) old el-(n+m))) el)) ob el i.size (xs++news) (n+m)
   w.heap.size (grownCap w (n+m) old el) (xs.toArray++news.toArray++Builtin.zeroCells z.cells (grownCap w (n+m) old el-(n+m))):=λold ob=>by
  have hge:=grownCap_ge w (n+m) old el;refine⟨rfl,rfl,rfl,by simp,heap_alloc_new w.drew _,?_,hge,grownCap_le_maxLen w (n+m) old el (by unfold maxLen;omega),?_,λk hk _=>heap_alloc_old w.drew _ hk,.inr (afm _)⟩
  ·simp only[Array.size_append,af8,size_zeroCells,hzs,hxl,hl,<-Nat.add_mul]
   congr 1
   omega
  ·simp only[Array.toList_append,afX];rw[<-List.append_assoc,<-hlen];exact agP
 rcases hv with⟨rfl,rfl⟩|⟨ad0,rfl,rfl⟩|⟨b,cap,c,rfl,hbk,hcs,hnc,hcm,htake⟩
 ·have hx:xs=[]:=afJ (by simpa using hxl);subst hx;have hr:=run_append_nil (P:=P) w t ty el i z ht hi hz ad m k news hl hnews hm (by omega) (by have hb:=hbytes;simp only[afu]at hb;omega);have hg:=grown 0 none;simp only[afu,afq,Array.empty_append]at hg⊢;exact⟨_,_,_,_,hr,hg⟩
 ·have hx:xs=[]:=afJ (by simpa using hxl);subst hx;have hr:=run_append_grow (P:=P) w t ty el i z ht hi hz ad0 0 0 [] (by simp) (by simp) ad m k news hl hnews (by omega) (by omega) (growslice_fits (by omega) (by omega));exact⟨_,_,_,_,hr,grown 0 none⟩
 ·by_cases hfit:n+m<=cap
  ·have hf:n*i.size+news.length<=c.size:=by rw[hl,hcs,<-Nat.add_mul];exact afK _ hfit
   have hr:=run_append_room (P:=P) w t ty el i ht hi b n cap c hbk ad m k news hl hnews h1 hfit hf;refine⟨_,_,_,_,hr,rfl,rfl,rfl,by simp,setRow_heap w b c _ el _ hbk,?_,hfit,hcm,?_,λk _ hk=>setRow_other w b k _ hk,.inl ?_⟩
   ·simp only[af8,afr,agw,List.length_drop,afP];omega
   ·simp only;rw[htake,<-hlen];exact agP
   ·cases cap with
    |zero=>omega
    |succ q=>rfl
  ·have holds:∀j u,xs[j]?=some u->w.cell? ((⟨b,0,none⟩:Addr).add j)=some u:=λj u hj=>by
    have hjl:=(aft.1 hj).1;rw[<-htake,af2 (by omega)]at hj;rw[fU,afu,cell_of_row w b j c el (0,0) hbk];simpa using hj
   have hr:=run_append_grow (P:=P) w t ty el i z ht hi hz ⟨b,0,none⟩ n cap xs hxl holds ad m k news hl hnews (by omega) (by omega) (growslice_fits (by omega) (by omega));exact⟨_,_,_,_,hr,grown cap _⟩
theorem Sv{t u ty el:TypeId}{i:TypeInfo}{z:Value}(ht:P.underlying t=some (.slice el))(hu:P.underlying u=some .string)(hi:P.info? el=some i)(hz:i.zero=some z)(hzs:z.cells.size=i.size)(hsz:i.size=1)
  {v:Value} {n:Nat} {xs:List Value} (hxl:xs.length=n*i.size)
  (hv:(v=.slice none 0 0∧n=0)∨(∃ad,v=.slice (some ad) 0 0∧n=0) ∨
   ∃b cap c,v=.slice (some ⟨b,0,none⟩) n cap∧w.heap[b]?=some (.cells c el (0,0))∧c.size=cap*i.size∧n<=cap∧cap<=maxLen∧c.toList.take (n*i.size)=xs)
  {s:ByteArray} (hm:0<s.size) (hb:(n+s.size)*i.bytes<=room) (hr:n+s.size<=room) :
  ∃w' g cap cur,(Builtin.append_ #[t,u] ty #[v,.string s]).run P w=.ok (.slice (some ⟨g,0,none⟩) (n+s.size) cap) w' ∧
   pZ w w' (match v with|.slice (some p) _ (_+1)=>some p.block|_=>none) el i.size (xs++Lib.strCells s) (n+s.size) g cap cur:=by
 have hroom:n+s.size<=1099511627776:=hr;have hbytes:(n+s.size)*i.bytes<=1099511627776:=hb;have hlen:(xs++Lib.strCells s).length=(n+s.size)*i.size:=by rw[afr,hxl,Lib.strCells_length,afQ,hsz,agb,agb]
 have grown:∀(old:Nat) (ob:Option Nat),pZ w (w.drew.alloc (.cells (xs.toArray++(Lib.strCells s).toArray++Builtin.zeroCells z.cells (grownCap w (n+s.size) old el-(n+s.size))) el)) ob el i.size (xs++Lib.strCells s) (n+s.size)
   w.heap.size (grownCap w (n+s.size) old el) (xs.toArray++(Lib.strCells s).toArray++Builtin.zeroCells z.cells (grownCap w (n+s.size) old el-(n+s.size))):=λold ob=>by
  have hge:=grownCap_ge w (n+s.size) old el;refine⟨rfl,rfl,rfl,by simp,heap_alloc_new w.drew _,?_,hge,grownCap_le_maxLen w (n+s.size) old el (by unfold maxLen;omega),?_,λk hk _=>heap_alloc_old w.drew _ hk,.inr (afm _)⟩
  ·simp only[Array.size_append,af8,size_zeroCells,hzs,hxl,Lib.strCells_length,hsz,agb];omega
  ·simp only[Array.toList_append,afX];rw[<-List.append_assoc,<-hlen];exact agP
 rcases hv with⟨rfl,rfl⟩|⟨ad0,rfl,rfl⟩|⟨b,cap,c,rfl,hbk,hcs,hnc,hcm,htake⟩
 ·have hx:xs=[]:=afJ (by simpa using hxl);subst hx;have hr:=run_append_nil_string (P:=P) w t u ty el i z ht hu hi hz s (by omega) (by omega) (by have hb:=hbytes;simp only[afu]at hb;omega);have e1:(s.data.map λb=>Value.int .u8 b.toNat)=(Lib.strCells s).toArray:=by
   apply Array.ext';simp[Lib.strCells]
  rw[e1]at hr;have hg:=grown 0 none;simp only[afu,afq,Array.empty_append]at hg⊢;exact⟨_,_,_,_,hr,hg⟩
 ·have hx:xs=[]:=afJ (by simpa using hxl);subst hx;have hr:=Lib.run_append_grow_string (P:=P) w t u ty el i z ht hu hi hz ad0 0 0 [] (by simp) (by simp) s (by omega) (by omega) (growslice_fits (by omega) (by omega));exact⟨_,_,_,_,hr,grown 0 none⟩
 ·by_cases hfit:n+s.size<=cap
  ·have hf:n+s.size<=c.size:=by rw[hcs,hsz,agb];exact hfit
   have hr:=Lib.run_append_room_string (P:=P) w t u ty el i ht hu hi hsz b n cap c hbk s hfit hf;refine⟨_,_,_,_,hr,rfl,rfl,rfl,by simp,setRow_heap w b c _ el _ hbk,?_,hfit,hcm,?_,λk _ hk=>setRow_other w b k _ hk,.inl ?_⟩
   ·simp only[af8,afr,agw,List.length_drop,afP,Lib.strCells_length];omega
   ·have ht':c.toList.take n=xs:=by rw[<-htake,hsz,agb]
    simp only;rw[ht',<-hlen];exact agP
   ·cases cap with
    |zero=>omega
    |succ q=>rfl
  ·have holds:∀j u,xs[j]?=some u->w.cell? ((⟨b,0,none⟩:Addr).add j)=some u:=λj u hj=>by
    have hjl:=(aft.1 hj).1;rw[<-htake,af2 (by omega)]at hj;rw[fU,afu,cell_of_row w b j c el (0,0) hbk];simpa using hj
   have hr:=Lib.run_append_grow_string (P:=P) w t u ty el i z ht hu hi hz ⟨b,0,none⟩ n cap xs hxl holds s (by omega) (by omega) (growslice_fits (by omega) (by omega));exact⟨_,_,_,_,hr,grown cap _⟩
theorem OG{t u ty el:TypeId}{i:TypeInfo}(ht:P.underlying t=some (.slice el))(hu:P.underlying u=some .string)(hi:P.info? el=some i)(hsz:i.size=1){q:Option Addr}{n cap:Nat}(hn:n<=cap){s:ByteArray}(hs:s.size=0) :
  (Builtin.append_ #[t,u] ty #[.slice q n cap,.string s]).run P w=.ok (.slice q n cap) w:=by
 have hf:=Lib.run_firstCells_string (P:=P) w i.size s;have h0:Lib.strCells s=[]:=afJ (by rw[Lib.strCells_length];exact hs);rw[hs,h0]at hf;cases q with
 |none=>simp[Builtin.append_,run_underlying ht,run_underlying hu,sizeOf,typeInfo,hi,Builtin.lenOf,hn,hf,hs]
 |some a=>simp[Builtin.append_,run_underlying ht,run_underlying hu,sizeOf,typeInfo,hi,Builtin.lenOf,hn,hf,hs,storeCells]
theorem Sy{t ty el:TypeId}{i:TypeInfo}(ht:P.underlying t=some (.slice el))(hi:P.info? el=some i){q:Option Addr}{n cap:Nat}(hn:n<=cap)(p:Option Addr)(k:Nat) :
  (Builtin.append_ #[t,t] ty #[.slice q n cap,.slice p 0 k]).run P w=.ok (.slice q n cap) w:=by
 have hf:(Builtin.firstCells i.size 0 (.slice p 0 k)).run P w=.ok #[] w:=by
  cases p with
  |none=>rfl
  |some ad=>simp[Builtin.firstCells,loadCells,loadCellsFrom]
 cases q with
 |none=>simp[Builtin.append_,run_underlying ht,sizeOf,typeInfo,hi,Builtin.lenOf,hn,hf]
 |some a=>simp[Builtin.append_,run_underlying ht,sizeOf,typeInfo,hi,Builtin.lenOf,hn,hf,storeCells]
theorem Bd{w':World}(s:Sim w G h)(hn:h≠[]){el:TypeId}{sz:Nat}{es:List AV}{flat:List Value}(hf:Flat w G sz es flat)(hsz:0<sz){g cap:Nat}{cur:Array Value}
  (ho:pZ w w' none el sz flat es.length g cap cur) :
  Sim w' (G.at_ (hnext h) (some g) (some es.length) cap) (hnew h (.arr el sz false es)) ∧
  Goes w G h w' (G.at_ (hnext h) (some g) (some es.length) cap) (hnew h (.arr el sz false es)) ∧
  aD w' (G.at_ (hnext h) (some g) (some es.length) cap) (dom (hnew h (.arr el sz false es))) (.own (hnext h) es.length) (.slice (some ⟨g,0,none⟩) es.length cap):=by
 have hg:w.heap.size<=g:=ho.which.resolve_left (by simp);have hb:∀k,k<w.heap.size->w'.heap[k]?=w.heap[k]?:=λk hk=>ho.other k hk (by omega)
 have gg:=Goes.new (w':=w') (B:=.arr el sz false es) (b:=some g) (n:=some es.length) (c:=cap) s hn ho.os ho.tape ho.output ho.size hb (λk hk=>by injection hk with hk;omega);refine⟨s.new hn ho.size hb (λk hk=>by injection hk with hk;omega) ?_,gg,?_⟩
 ·refine⟨by simp[Gm.at_],.inr ⟨g,cur,by simp[Gm.at_],ho.here,by simpa[Gm.at_]using ho.rows,hsz,by simpa[Gm.at_]using ho.fits,by simpa[Gm.at_]using ho.most,(hf.mono gg.imm).arr ho.take,λo hi=>?_⟩⟩;have:=s.imm _ _ hi;omega
 ·refine .own _ _ _ es.length _ ((dw hn _ _).2 (.inl rfl)) (by simp[Gm.at_]) (afm _) (.inr ⟨g,cap,rfl⟩) λ_=>?_
  simp[dD,Gm.at_]
def cQ(P:Program)(w:World)(G:Gm)(h:Heap)(a:Act)(o:Oper)(v:AV)(h':Heap):Prop:=
 ∃n x w' G',(execOp a.eval o).run P w=.ok n w'∧(n=.value x∨(n=.skip∧x=undef))∧Sim w' G' h'∧Goes w G h w' G' h'∧aD w' G' (dom h') v x
theorem Js(s:Sim w G h)(hn:h≠[]){e:Env}{a:Act}(he:aF w G (dom h) e a){o:Oper}{c:Call}{t u el:TypeId}{i:TypeInfo}{z:AV}{S X:Operand}{S':Opd}
  (ho:o.op=.call c) (hc:c.callee=.builtin .append) (hargs:c.args.toList=[S,X]) (hS:aS S=some S') (ht0:c.argTypes[0]?=some t) (ht1:c.argTypes[1]?=some u)
  (hu:P.underlying t=some (.slice el)) (hi:P.info? el=some i) (hz:zeroOf P el=some z) (hsz:0<i.size)
  {news:List AV} {flat:List Value} (hfl:Flat w G i.size news flat)
  (R0:news=[]->∀q n cap,n<=cap->(Builtin.append_ #[t,u] o.type #[.slice q n cap,a.eval X]).run P w=.ok (.slice q n cap) w)
  (RN:news≠[]->∀(v:Value) (n:Nat) (xs:List Value),xs.length=n*i.size->((v=.slice none 0 0∧n=0)∨(∃ad,v=.slice (some ad) 0 0∧n=0) ∨
   ∃b cap c,v=.slice (some ⟨b,0,none⟩) n cap∧w.heap[b]?=some (.cells c el (0,0))∧c.size=cap*i.size∧n<=cap∧cap<=maxLen∧c.toList.take (n*i.size)=xs) ->
   (n+news.length)*i.bytes<=room->n+news.length<=room->∃w' g cap cur,(Builtin.append_ #[t,u] o.type #[v,a.eval X]).run P w=.ok (.slice (some ⟨g,0,none⟩) (n+news.length) cap) w' ∧
   pZ w w' (match v with|.slice (some p) _ (_+1)=>some p.block|_=>none) el i.size (xs++flat) (n+news.length) g cap cur)
  {v:AV} {h':Heap} (hev:wS el i.size i.bytes (S'.ev e) news h=some (.val v h')):cQ P w G h a o v h':=by
 have hrS:=aG he hS;have hA:c.args=#[S,X]:=by rw[<-Array.toArray_toList (xs:=c.args),hargs]
 have hop:∀(r:Result Value),(Builtin.append_ #[t,u] o.type #[a.eval S,a.eval X]).run P w=r->(execOp a.eval o).run P w=r.andThen λx w'=>.ok (.value x) w':=λr hr=>by
  have e1:Builtin.append_ c.argTypes o.type #[a.eval S,a.eval X]=Builtin.append_ #[t,u] o.type #[a.eval S,a.eval X]:=by
   unfold Builtin.append_;simp only[ht0,ht1];rfl
  simp only[execOp,ho,resolve,hc,hA,agv,afj,afw,afs,afV,afI,invoke,builtin,e1,hr]
 unfold wS at hev;have nothing:news=[]->∀q n cap,a.eval S=.slice q n cap->n<=cap->∀v,aD w G (dom h) v (a.eval S)->cQ P w G h a o v h:=λh0 q n cap hq hnc v hv=>by
  subst h0;have hr:=R0 rfl q _ _ hnc;refine⟨.value (a.eval S),a.eval S,w,G,?_,.inl rfl,s,Goes.refl w G h,hv⟩;rw[hop (.ok (.slice q n cap) w) (by rw[hq];exact hr),hq];rfl
 have fresh:∀(dst:Value),a.eval S=dst->(dst=.slice none 0 0∨∃ad,dst=.slice (some ad) 0 0)->news≠[]->news.length*i.bytes<=room∧news.length<=room ->
   cQ P w G h a o (.own (hnext h) news.length) (hnew h (.arr el i.size false news)):=λdst hd hdc hnn hrm=>by
  obtain⟨w',g,cap,cur,hrun,hout⟩:=RN hnn dst 0 [] (by simp) (by
   rcases hdc with h0|⟨ad,h0⟩
   ·exact .inl ⟨h0,rfl⟩
   ·exact .inr (.inl ⟨ad,h0,rfl⟩)) (by simpa using hrm.1) (by simpa using hrm.2)
  have hold:(match dst with|.slice (some p) _ (_+1)=>some p.block|_=>none)=none:=by
   rcases hdc with rfl|⟨ad,rfl⟩<;>rfl
  rw[hold]at hout;simp only[afq,afu]at hout hrun;obtain⟨k1,k2,k3⟩:=Bd s hn hfl hsz hout;refine⟨.value _,_,w',_,?_,.inl rfl,k1,k2,k3⟩;rw[hop (.ok (.slice (some ⟨g,0,none⟩) news.length cap) w') (by rw[hd];exact hrun)];rfl
 split at hev
 ·rename_i la n hSv;rw[hSv]at hrS;split at hev
  ·rename_i tb sz' vw es hb;split at hev
   ·rename_i cc;obtain⟨c1,c2,c3,c4⟩:=cc;injection hev with hev
    injection hev with zu zw
    subst zu;subst zw;subst c1;generalize hSx:a.eval S=sx at hrS;cases hrS with
    |own _ la n m sx hLa hm hle hov hx=>
     obtain⟨h0,hd⟩:=s.blk la _ hb;have hmn:m=es.length:=by rw[hm]at h0;injection h0
     have hxe:=hx hmn;have hform:∃q cap,sx=.slice q es.length cap∧es.length<=cap:=by
      rcases hd with⟨q1,q2⟩|⟨b,cs,q1,q2,q3,q4,q5,q6,q7,q8⟩
      ·subst q2;exact⟨none,0,by rw[hxe];unfold dD;rw[q1];rfl,afm _⟩
      ·exact⟨some ⟨b,0,none⟩,G.cap la,by rw[hxe];unfold dD;rw[q1],q5⟩
     by_cases hnn:news=[]
     ·subst hnn;obtain⟨q,cap,hq,WZ⟩:=hform;have hr:=R0 rfl q _ _ WZ;have hgk:Goes w G h w G (aQ h la (.arr el i.size vw (es++[]))):=
       Goes.update hLa rfl rfl rfl (afm _) (λ_ _ _=>rfl) (λ_ _=>⟨rfl,rfl,rfl⟩) (Agree.refl G la) (aW.refl w G) (λ_ hk=>.inl hk) (λ_ _ hk=>.inl hk)
      refine⟨.value sx,sx,w,G,?_,.inl rfl,s.update hLa (afm _) (λ_ _ _=>rfl) (λ_ _=>⟨rfl,rfl,rfl⟩) (Agree.refl G la) (aW.refl w G) (λ_ _ hk=>.inl hk) (λ_ hk=>.inl hk) ?_,hgk,?_⟩
      ·rw[hop (.ok (.slice q es.length cap) w) (by rw[hSx,hq];exact hr),hq];rfl
      ·rw[afz];refine⟨h0,?_⟩;rcases hd with⟨q1,q2⟩|⟨b,cs,q1,q2,q3,q4,q5,q6,q7,q8⟩
       ·exact .inl ⟨q1,q2⟩
       ·obtain⟨e1,e2⟩:=c4.resolve_left (by omega);subst e1;subst e2;exact .inr ⟨b,cs,q1,q2,q3,q4,q5,q6,q7,q8⟩
      ·exact (aD.own _ la _ m sx hLa hm hle hov hx).along hgk
     ·
      have hpos:0<news.length:=agz.2 hnn;have hxs:∃xs,Flat w G i.size es xs∧((sx=.slice none 0 0∧es.length=0)∨(∃ad,sx=.slice (some ad) 0 0∧es.length=0) ∨
        ∃b cap cs,sx=.slice (some ⟨b,0,none⟩) es.length cap∧w.heap[b]?=some (.cells cs el (0,0))∧cs.size=cap*i.size∧es.length<=cap∧cap<=maxLen∧cs.toList.take (es.length*i.size)=xs) ∧
        ∀b,(match sx with|.slice (some p) _ (_+1)=>some p.block|_=>none)=some b->G.blk la=some b:=by
       rcases hd with⟨q1,q2⟩|⟨b,cs,q1,q2,q3,q4,q5,q6,q7,q8⟩
       ·subst q2;have:sx=.slice none 0 0:=by rw[hxe];unfold dD;rw[q1]
        exact⟨[],⟨by simp,by simp,by simp,by simp⟩,.inl ⟨this,rfl⟩,λb hb'=>by rw[this]at hb';cases hb'⟩
       ·obtain⟨e1,e2⟩:=c4.resolve_left (by omega);subst e1;subst e2;have:sx=.slice (some ⟨b,0,none⟩) es.length (G.cap la):=by rw[hxe];unfold dD;rw[q1]
        refine⟨cs.toList.take (es.length*i.size),Flat.Su (by rw[q3];exact afK _ q5) q7 hsz,.inr (.inr ⟨b,_,cs,this,q2,q3,q5,q6,rfl⟩),λb' hb'=>?_⟩;rw[this]at hb';split at hb'
        ·rename_i hsl;injection hsl with e1 _ _
         injection e1 with e1
         injection hb' with hb'
         rw[q1,<-hb',<-e1]
        ·cases hb'
      obtain⟨xs,hxf,hxd,hob⟩:=hxs;obtain⟨w',g,cap,cur,hrun,hout⟩:=RN hnn sx es.length xs hxf.len hxd c2 c3;have I5:∀k q,G.imm k q->k=g->vw=true∧q<es.length*i.size∧G.blk la=some g:=λk q hk e=>by
       subst e;rcases hout.which with e1|e1
       ·have hbg:=hob _ e1;rcases hd with⟨q1,q2⟩|⟨b,cs,q1,q2,q3,q4,q5,q6,q7,q8⟩
        ·rw[q1]at hbg;cases hbg
        ·obtain⟨_,e2⟩:=c4.resolve_left (by omega);rw[q1]at hbg;injection hbg with hbg;subst hbg
         have:=q8 q hk;rw[e2]at this;exact⟨this.1,this.2,q1⟩
       ·have:=s.imm _ _ hk;omega
      have hI:aW w G w' (G.at_ la (some g) (some (es.length+news.length)) cap):=λk q hk=>by
       refine⟨hk,?_⟩;by_cases e:k=g
       ·subst e;obtain⟨_,h2,h3⟩:=I5 k q hk rfl;rcases hd with⟨q1,q2⟩|⟨b,cs,q1,q2,q3,q4,q5,q6,q7,q8⟩
        ·rw[q1]at h3;cases h3
        ·obtain⟨e1,e2⟩:=c4.resolve_left (by omega);subst e1;subst e2;rw[q1]at h3;injection h3 with h3;subst h3
         rw[cell_of_row w' b q cur tb (0,0) hout.here,cell_of_row w b q cs tb (0,0) q2];have ae5:xs=cs.toList.take (es.length*i.size):=by
          rcases hxd with⟨hx1,_⟩|⟨ad',hx1,hx2⟩|⟨b',cap',cs',hx1,hx2,_,_,_,hx3⟩
          ·rw[hxe]at hx1;unfold dD at hx1;rw[q1]at hx1;cases hx1
          ·have:xs=[]:=afJ (by rw[hxf.len,hx2];simp);rw[this,hx2];simp
          ·rw[hxe]at hx1;unfold dD at hx1;rw[q1]at hx1;injection hx1 with hx1
           injection hx1 with hx1
           injection hx1 with hx1
           subst hx1;rw[q2]at hx2;injection hx2 with hx2
           injection hx2 with hx2
           subst hx2;exact hx3.symm
         have e3:cur.toList[q]?=(xs++flat)[q]?:=by
          rw[<-hout.take,af2 (by rw[afQ];omega)]
         rw[afF (by rw[hxf.len];exact h2),ae5,af2 h2]at e3;simpa using e3
       ·exact agf (hout.other k (s.imm k q hk) e)
      have hG:∀a',a'≠la->(G.at_ la (some g) (some (es.length+news.length)) cap).blk a'=G.blk a'∧(G.at_ la (some g) (some (es.length+news.length)) cap).len a'=G.len a' ∧
        (G.at_ la (some g) (some (es.length+news.length)) cap).cap a'=G.cap a':=λa' e=>by simp[Gm.at_,e]
      have hAg:Agree G (G.at_ la (some g) (some (es.length+news.length)) cap) la:=.inr ⟨es.length,es.length+news.length,h0,by simp[Gm.at_],by omega⟩;have hbl:∀b,b<w.heap.size->G.blk la≠some b->w'.heap[b]?=w.heap[b]?:=λb hb1 hb2=>by
       refine hout.other b hb1 λe=>?_
       subst e;rcases hout.which with e1|e1
       ·exact hb2 (hob _ e1)
       ·omega
      have hnw:∀b,(G.at_ la (some g) (some (es.length+news.length)) cap).blk la=some b->G.blk la=some b∨w.heap.size<=b:=λb hb1=>by
       have:g=b:=by simpa[Gm.at_]using hb1
       subst this;rcases hout.which with e1|e1
       ·exact .inl (hob _ e1)
       ·exact .inr e1
      have hgo:=Goes.update (B:=.arr el i.size vw (es++news)) hLa hout.os hout.tape hout.output hout.size hbl hG hAg hI hnw (λ_ _ hk=>.inl hk);refine⟨.value (.slice (some ⟨g,0,none⟩) (es.length+news.length) cap),.slice (some ⟨g,0,none⟩) (es.length+news.length) cap,w',_,?_,.inl rfl,
       s.update hLa hout.size hbl hG hAg hI (λ_ _ hk=>.inl hk) hnw ?_,hgo,?_⟩
      ·rw[hop (.ok (.slice (some ⟨g,0,none⟩) (es.length+news.length) cap) w') (by rw[hSx];exact hrun)];rfl
      ·refine⟨by simp[Gm.at_],.inr ⟨g,cur,by simp[Gm.at_],hout.here,by simpa[Gm.at_]using hout.rows,hsz,by simpa[Gm.at_]using hout.fits,by simpa[Gm.at_]using hout.most,
        ((hxf.append hfl).mono hI).arr (by rw[afr];exact hout.take),λq hk=>?_⟩⟩
       obtain⟨k1,k2,_⟩:=I5 g q hk rfl;rw[afr,afQ];exact⟨k1,by omega⟩
      ·refine .own _ la _ (es.length+news.length) _ ((bI h la la _).2 hLa) (by simp[Gm.at_]) (afm _) (.inr ⟨g,cap,rfl⟩) λ_=>?_
       simp[dD,Gm.at_]
   ·cases hev
  ·cases hev
 ·rename_i hSv;rw[hSv]at hrS;have hSx:a.eval S=.slice none 0 0:=by
   generalize a.eval S=sx at hrS;cases hrS;rfl
  split at hev
  ·rename_i h0;injection hev with hev
   injection hev with zu zw
   subst zu;subst zw;exact nothing h0 _ _ _ hSx (afm _) _ hrS
  ·rename_i h0;split at hev
   ·rename_i hrm;injection hev with hev
    injection hev with zu zw
    subst zu;subst zw;exact fresh _ hSx (.inl rfl) h0 hrm
   ·cases hev
 ·rename_i hSv;rw[hSv]at hrS;have hSx:∃q,a.eval S=.slice q 0 0:=by
   generalize a.eval S=sx at hrS;cases hrS with
   |emp _ q=>exact⟨_,rfl⟩
  obtain⟨q,hSx⟩:=hSx;split at hev
  ·rename_i h0;injection hev with hev
   injection hev with zu zw
   subst zu;subst zw;exact nothing h0 _ _ _ hSx (afm _) _ hrS
  ·rename_i h0;split at hev
   ·rename_i hrm;injection hev with hev
    injection hev with zu zw
    subst zu;subst zw;exact fresh _ hSx (by cases q with|none=>exact .inl rfl|some ad=>exact .inr ⟨ad,rfl⟩) h0 hrm
   ·cases hev
 ·cases hev
theorem Rp(s:Sim w G h)(hn:h≠[]){e:Env}{a:Act}(he:aF w G (dom h) e a){o:Oper}{c:Call}{t el:TypeId}{i:TypeInfo}{z:AV}{S X:Operand}{S' X':Opd}
  (ho:o.op=.call c) (hc:c.callee=.builtin .append) (hargs:c.args.toList=[S,X]) (hS:aS S=some S') (hX:aS X=some X') (ht0:c.argTypes[0]?=some t) (ht1:c.argTypes[1]?=some t)
  (hu:P.underlying t=some (.slice el)) (hi:P.info? el=some i) (hz:zeroOf P el=some z) (hsz:0<i.size)
  {K:Cfg} {O:Orc} {v:AV} {h':Heap} (hev:evM K O (.app el i.size i.bytes S' X') e h=some (.val v h')):cQ P w G h a o v h':=by
 have hrX:=aG he hX;obtain⟨i',zv,hi',hzv,hzz,hzl⟩:=cY hz;rw[hi]at hi';injection hi' with hi';subst hi'
 have hzr:aD w G (dom h) z zv:=by rw[hzz];exact fD zv
 have hzs:zv.cells.size=i.size:=by rw[(hzr.dO (by omega)).1,hzl]
 simp only[evM]at hev;cases hel:dW (X'.ev e) h with
 |none=>simp[hel]at hev
 |some news=>
  simp only[hel]at hev;split at hev
  ·rename_i hsd;obtain⟨p,kc,flat,hxv,hfl,hpn,hcell⟩:=Bb s hrX hel hsz hsd;refine Js s hn he ho hc hargs hS ht0 ht1 hu hi hz hsz hfl (λh0 q n cap hnc=>?_) (λhnn v n xs hxl hv hb hr=>?_) hev
   ·subst h0;rw[hxv];exact Sy (P:=P) (w:=w) (ty:=o.type) hu hi (q:=q) hnc p kc
   ·rw[hxv];cases p with
    |none=>exact absurd (hpn rfl) hnn
    |some ad=>
     exact Gu (P:=P) (w:=w) (ty:=o.type) hu hi hzv hzs hsz hxl hv hfl.len (λj u hj=>by
      obtain⟨ad',e1,e2⟩:=hcell j u hj;injection e1 with e1;subst e1
      exact e2) hfl.one (agz.2 hnn) (k:=kc) hb hr
  ·cases hev
theorem SA(q:List UInt8):Flat w G 1 (ofBytes q) (Lib.strCells ⟨q.toArray⟩) where
 len:=by rw[Lib.strCells_length];simp[ofBytes,ByteArray.size]
 one:=Lib.strCells_oneCell _
 sized i hi:=by
  unfold ofBytes at hi⊢;rw[afk,afy];rw[afv]at hi;rw[afD hi];rfl
 rel i j hi hj:=by
  have hj0:j=0:=by omega
  subst hj0;unfold ofBytes at hi⊢;rw[afv]at hi;simp only[agb,af1,Lib.strCells,afk,afy];rw[afD hi];exact .int _ _ _
theorem X3(s:Sim w G h)(hn:h≠[]){e:Env}{a:Act}(he:aF w G (dom h) e a){o:Oper}{c:Call}{t u el:TypeId}{i:TypeInfo}{z:AV}{S X:Operand}{S' X':Opd}
  (ho:o.op=.call c) (hc:c.callee=.builtin .append) (hargs:c.args.toList=[S,X]) (hS:aS S=some S') (hX:aS X=some X') (ht0:c.argTypes[0]?=some t) (ht1:c.argTypes[1]?=some u)
  (hu:P.underlying t=some (.slice el)) (hus:P.underlying u=some .string) (hi:P.info? el=some i) (hz:zeroOf P el=some z) (hsz:i.size=1)
  {K:Cfg} {O:Orc} {v:AV} {h':Heap} (hev:evM K O (.XJ el i.bytes S' X') e h=some (.val v h')):cQ P w G h a o v h':=by
 have hrX:=aG he hX;obtain⟨i',zv,hi',hzv,hzz,hzl⟩:=cY hz;rw[hi]at hi';injection hi' with hi';subst hi'
 have hzr:aD w G (dom h) z zv:=by rw[hzz];exact fD zv
 have hzs:zv.cells.size=i.size:=by rw[(hzr.dO (by omega)).1,hzl]
 simp only[evM]at hev;split at hev
 ·rename_i q hq;rw[hq]at hrX;have hxv:=cJ hrX;have hl:(ofBytes q).length=(⟨q.toArray⟩:ByteArray).size:=by simp[ofBytes,ByteArray.size]
  have hfl:Flat w G i.size (ofBytes q) (Lib.strCells ⟨q.toArray⟩):=by rw[hsz];exact SA q
  rw[<-hsz]at hev;refine Js s hn he ho hc hargs hS ht0 ht1 hu hi hz (by omega) hfl (λh0 q' n cap hnc=>?_) (λhnn v n xs hxl hv hb hr=>?_) hev
  ·rw[hxv];exact OG (P:=P) (w:=w) (ty:=o.type) hu hus hi hsz hnc (by rw[<-hl,h0];rfl)
  ·rw[hxv];rw[hl]at hb hr⊢;exact Sv (P:=P) (w:=w) (ty:=o.type) hu hus hi hzv hzs hsz hxl hv (by rw[<-hl];exact agz.2 hnn) hb hr
 ·cases hev
end Go.Ab
namespace Go.Ab
open Go.RowKit
variable{P:Program}
theorem sD{w:World}{G:Gm}{h:Heap}(s:Sim w G h){a:Loc}{n:Nat}{x:Value}(hv:aD w G (dom h) (.own a n) x){t:TypeId}{sz:Nat}{vw:Bool}{es:List AV}
  (hB:AJ w G a t sz vw es) (hn:es.length=n) :
  ∃G',Sim w G' (aQ h a (.arr t sz true es))∧Goes w G h w G' (aQ h a (.arr t sz true es))∧aD w G' (dom (aQ h a (.arr t sz true es))) (.lst es) x:=by
 cases hv with
 |own _ a n m x hLa hm hle ho hx=>
  obtain⟨h0,hd⟩:=hB;have hmn:m=n:=by rw[hm]at h0;injection h0 with h0;omega
  have hxe:=hx hmn;have hI:aW w G w (G.still λb o=>G.blk a=some b∧o<n*sz):=λb o hi=>⟨.inl hi,rfl⟩
  have hgo:=Goes.update (w:=w) (w':=w) (G:=G) (G':=G.still λb o=>G.blk a=some b∧o<n*sz) (B:=.arr t sz true es) hLa rfl rfl rfl (afm _) (λ_ _ _=>rfl) (λ_ _=>⟨rfl,rfl,rfl⟩) (.inl ⟨rfl,rfl,rfl⟩) hI (λ_ hk=>.inl hk) (λ_ _ hk=>hk.elim .inl λhk=>.inr hk.1);refine⟨G.still λb o=>G.blk a=some b∧o<n*sz,s.update (G':=G.still λb o=>G.blk a=some b∧o<n*sz) hLa (afm _) (λ_ _ _=>rfl) (λ_ _=>⟨rfl,rfl,rfl⟩) (.inl ⟨rfl,rfl,rfl⟩) hI (λb o hi=>?_) (λ_ hk=>.inl hk) ?_,hgo,?_⟩
  ·rcases hi with hi|⟨hi,_⟩
   ·exact .inl hi
   ·exact .inr ⟨hi,s.lt hLa hi⟩
  ·refine⟨h0,?_⟩;rcases hd with⟨q1,q2⟩|⟨b,c,q1,q2,q3,q4,q5,q6,q7,q8⟩
   ·exact .inl ⟨q1,q2⟩
   ·refine .inr ⟨b,c,q1,q2,q3,q4,q5,q6,λi hi=>⟨(q7 i hi).1,λj hj=>⟨((q7 i hi).2 j hj).1,((q7 i hi).2 j hj).2.mono hI λ_ e=>e.elim⟩⟩,λo hi=>⟨rfl,?_⟩⟩;rcases hi with hi|⟨_,hi⟩
    ·exact (q8 o hi).2
    ·rw[hn];exact hi
  ·rcases hd with⟨q1,q2⟩|⟨b,c,q1,q2,q3,q4,q5,q6,q7,q8⟩
   ·subst q2;have hxv:x=.slice none 0 0:=by rw[hxe];unfold dD;rw[q1]
    rw[hxv];exact .mU _ _ _
   ·have hxv:x=.slice (some ⟨b,0,none⟩) n (G.cap a):=by rw[hxe];unfold dD;rw[q1]
    rw[hxv];subst hn;refine .lst _ es b 0 _ sz (λi j=>c.getD (i*sz+j) undef) q5 (λi hi=>(q7 i hi).1) (λi j hi hj=>⟨?_,.inr ⟨q1,?_⟩,((q7 i hi).2 j hj).1⟩) λi j hi hj=>((q7 i hi).2 j hj).2.mono hI λ_ e=>e.elim
    ·rw[afu];refine iH q2 ?_;rw[q3];exact af4 (fJ hi hj) (afK _ q5)
    ·rw[afu];exact fJ hi hj
theorem Fh{w:World}{v v':AV}{G:Gm}{h h':Heap}{x:Value}(s:Sim w G h)(hv:aD w G (dom h) v x)(he:vk v h=some (v',h')) :
  ∃G',Sim w G' h'∧Goes w G h w G' h'∧aD w G' bM v' x∧v'.cells.length=v.cells.length∧v.isAgg=false∧v'.isAgg=false∧∀a t s es,hget h a=some (.arv t s es)->hget h' a=some (.arv t s es):=by
 unfold vk at he;split at he
 ·rename_i b m;split at he
  ·rename_i t sz vw es hb;split at he
   ·rename_i hn;simp only[fS,afn]at he;obtain⟨rfl,rfl⟩:=he;obtain⟨G',k1,k2,k3⟩:=sD s hv (s.blk b _ hb) hn;refine⟨G',k1,k2,k3.goes (aW.refl w G') (p:=λ_=>false) rfl (λ_ _ e=>by cases e),rfl,rfl,rfl,λa t' s' es' ha=>?_⟩;rw[gF,if_neg]
    ·exact ha
    ·rintro⟨rfl,_⟩;rw[hb]at ha;cases ha
   ·cases he
  ·cases he
 ·split at he
  ·rename_i c;simp only[fS,afn]at he;obtain⟨rfl,rfl⟩:=he;exact⟨G,s,Goes.refl w G h,hv.goes (aW.refl w G) (p:=λ_=>false) c.1 (λ_ _ e=>by cases e),rfl,c.2,c.2,λ_ _ _ _ ha=>ha⟩
  ·cases he
theorem one_cell{v:AV}(h:v.isAgg=false)(hc:v.cells.length=1):v.cells.getD 0 .top=v:=by
 cases v<;>simp_all[AV.isAgg,AV.cells]
theorem Jt{w:World}:∀(cs:List AV) {G:Gm} {h h':Heap} {xs:Nat->Value} {cs':List AV},Sim w G h->(∀i,i<cs.length->aD w G (dom h) (cs.getD i .top) (xs i))->Cz cs h=some (cs',h') ->
  ∃G',Sim w G' h'∧Goes w G h w G' h'∧cs'.length=cs.length∧(∀i,i<cs.length->aD w G' bM (cs'.getD i .top) (xs i))∧∀a t s es,hget h a=some (.arv t s es)->hget h' a=some (.arv t s es)
 | [],G,h,h',xs,cs',s,hv,he=>by
  simp only[Cz,fS,afn]at he;obtain⟨rfl,rfl⟩:=he;exact⟨G,s,Goes.refl w G h,rfl,λi hi=>by simp at hi,λ_ _ _ _ ha=>ha⟩
 |c::cs,G,h,h',xs,cs',s,hv,he=>by
  simp only[Cz]at he;split at he
  ·rename_i c' h1 hc;split at he
   ·rename_i cs2 h2 hcs;simp only[fS,afn]at he;obtain⟨rfl,rfl⟩:=he;obtain⟨G1,k1,k2,k3,_,_,_,k7⟩:=Fh s (by simpa using hv 0 (by simp)) hc;obtain⟨G2,l1,l2,l3,l4,l5⟩:=Jt cs (xs:=λi=>xs (i+1)) k1 (λi hi=>(by simpa using hv (i+1) (by simpa using hi):aD w G (dom h) (cs.getD i .top) (xs (i+1))).along k2) hcs;refine⟨G2,l1,k2.trans l2,by simp[l3],λi hi=>?_,λa t s es ha=>l5 a t s es (k7 a t s es ha)⟩;cases i with
    |zero=>simpa using k3.mono l2.imm λ_ e=>e.elim
    |succ i=>simpa using l4 i (by simpa using hi)
   ·cases he
  ·cases he
theorem SB{w:World}{v v':AV}{G:Gm}{h h':Heap}{xs:Nat->Value}(s:Sim w G h)(hv:∀j,j<v.cells.length->aD w G (dom h) (v.cells.getD j .top) (xs j))(he:CD v h=some (v',h')) :
  ∃G',Sim w G' h'∧Goes w G h w G' h'∧v'.cells.length=v.cells.length∧(∀j,j<v.cells.length->aD w G' bM (v'.cells.getD j .top) (xs j))∧∀a t s es,hget h a=some (.arv t s es)->hget h' a=some (.arv t s es):=by
 unfold CD at he;split at he
 ·rename_i cs;split at he
  ·rename_i cs' h1 hcs;simp only[fS,afn]at he;obtain⟨rfl,rfl⟩:=he;exact Jt cs s hv hcs
  ·cases he
 ·by_cases h0:v.cells.length=1∧v.isAgg=false
  ·obtain⟨G',k1,k2,k3,k4,_,k6,k7⟩:=Fh (x:=xs 0) s (by have:=hv 0 (by omega);rwa[one_cell h0.2 h0.1]at this) he;refine⟨G',k1,k2,k4,λj hj=>?_,k7⟩;have:j=0:=by omega
   subst this;rw[one_cell k6 (by omega)];exact k3
  ·have hz:v.cells.length=0:=by
    cases v<;>simp_all[AV.isAgg,AV.cells]
   have:vk v h=if v.pure=true∧v.isAgg=false then some (v,h) else none:=by
    cases v<;>simp_all[vk,AV.cells]
   rw[this]at he;split at he
   ·simp only[fS,afn]at he;obtain⟨rfl,rfl⟩:=he;exact⟨G,s,Goes.refl w G h,rfl,λj hj=>by omega,λ_ _ _ _ ha=>ha⟩
   ·cases he
theorem Ju{w:World}{sz:Nat}:∀(es:List AV) {G:Gm} {h h':Heap} {xs:Nat->Nat->Value} {es':List AV},Sim w G h->(∀i,i<es.length->(es.getD i .top).cells.length=sz∧∀j,j<sz->aD w G (dom h) ((es.getD i .top).cells.getD j .top) (xs i j))->tK es h=some (es',h') ->
  ∃G',Sim w G' h'∧Goes w G h w G' h'∧es'.length=es.length∧(∀i,i<es.length->(es'.getD i .top).cells.length=sz∧∀j,j<sz->aD w G' bM ((es'.getD i .top).cells.getD j .top) (xs i j))∧∀a t s es,hget h a=some (.arv t s es)->hget h' a=some (.arv t s es)
 | [],G,h,h',xs,es',s,hv,he=>by
  simp only[tK,fS,afn]at he;obtain⟨rfl,rfl⟩:=he;exact⟨G,s,Goes.refl w G h,rfl,λi hi=>by simp at hi,λ_ _ _ _ ha=>ha⟩
 |c::es,G,h,h',xs,es',s,hv,he=>by
  simp only[tK]at he;split at he
  ·rename_i c' h1 hc;split at he
   ·rename_i es2 h2 hcs;simp only[fS,afn]at he;obtain⟨rfl,rfl⟩:=he;have hv0:=hv 0 (by simp);simp only[af6]at hv0;obtain⟨G1,k1,k2,k3,k4,k5⟩:=SB (xs:=xs 0) s (λj hj=>hv0.2 j (by omega)) hc;obtain⟨G2,l1,l2,l3,l4,l5⟩:=Ju es (xs:=λi=>xs (i+1)) k1 (λi hi=>by
     have:=hv (i+1) (by simpa using hi);simp only[agJ]at this;exact⟨this.1,λj hj=>(this.2 j hj).along k2⟩) hcs
    refine⟨G2,l1,k2.trans l2,by simp[l3],λi hi=>?_,λa t s es ha=>l5 a t s es (k5 a t s es ha)⟩;cases i with
    |zero=>
     simp only[af6];exact⟨by omega,λj hj=>(k4 j (by omega)).mono l2.imm λ_ e=>e.elim⟩
    |succ i=>
     simp only[agJ];exact l4 i (by simpa using hi)
   ·cases he
  ·cases he
theorem SC{w:World}{G:Gm}{h:Heap}(s:Sim w G h){a:Loc}{n:Nat}{x:Value}(hv:aD w G (dom h) (.own a n) x){t:TypeId}{sz:Nat}{es es':List AV}{h':Heap}
  (hb:hget h a=some (.arv t sz es)) (hn:es.length=n) (he:tK es h=some (es',h')) :
  ∃G',Sim w G' (aQ h' a (.arr t sz true es'))∧Goes w G h w G' (aQ h' a (.arr t sz true es'))∧aD w G' (dom (aQ h' a (.arr t sz true es'))) (.lst es') x:=by
 obtain⟨h0,hd⟩:=s.blk a _ hb;rcases hd with⟨h1,h2⟩|⟨b,c,h1,h2,h3,h4,h5,h6,h7,h8⟩
 ·subst h2;simp only[tK,fS,afn]at he;obtain⟨rfl,rfl⟩:=he;exact sD (vw:=false) s hv ⟨h0,.inl ⟨h1,rfl⟩⟩ hn
 ·obtain⟨G1,k1,k2,k3,k4,k5⟩:=Ju es (xs:=λi j=>c.getD (i*sz+j) undef) s (λi hi=>⟨(h7 i hi).1,λj hj=>((h7 i hi).2 j hj).2.wider λ_=>zy⟩) he;have hb1:=k5 a t sz es hb;obtain⟨g0,gd⟩:=k1.blk a _ hb1;have hag:G1.blk a=G.blk a∧G1.len a=G.len a∧G1.cap a=G.cap a:=by
   rcases (k2.loc a (gL hb)).2 with q|⟨m,m',q1,q2,q3⟩
   ·exact q
   ·rw[h0]at q1;rw[g0]at q2;injection q1 with q1
    injection q2 with q2
    omega
  have hno:∀o,¬ G1.imm b o:=by
   rcases gd with⟨q1,_⟩|⟨b2,c2,q1,_,_,_,_,_,_,q8⟩
   ·rw[hag.1,h1]at q1;cases q1
   ·rw[hag.1,h1]at q1;injection q1 with q1;subst q1;exact q8
  have hA:AJ w G1 a t sz false es':=⟨by rw[hag.2.1,h0,k3],.inr ⟨b,c,hag.1.trans h1,h2,by rw[hag.2.2];exact h3,h4,by rw[hag.2.2,k3];exact h5,by rw[hag.2.2];exact h6,
   λi hi=>⟨(k4 i (by omega)).1,λj hj=>⟨((h7 i (by omega)).2 j hj).1,(k4 i (by omega)).2 j hj⟩⟩,λo ho=>absurd ho (hno o)⟩⟩
  obtain⟨G2,l1,l2,l3⟩:=sD k1 (hv.along k2) hA (by omega);exact⟨G2,l1,k2.trans l2,l3⟩
mutual
theorem mS{p:Loc->Bool}{w:World}:∀(v:AV) {G:Gm} {h h':Heap} {x:Value} {v':AV},Sim w G h->aD w G (dom h) v x->v.view p h=some (v',h') ->
  ∃G',Sim w G' h'∧Goes w G h w G' h'∧aD w G' (dom h') v' x
 |.own a n,G,h,h',x,v',s,hv,he=>by
  simp only[AV.view]at he;split at he
  ·split at he
   ·rename_i t sz vw es hb;split at he
    ·rename_i hn;simp only[fS,afn]at he;obtain⟨rfl,rfl⟩:=he;exact sD s hv (s.blk a _ hb) hn
    ·cases he
   ·rename_i t sz k ti si out es hb;split at he
    ·rename_i hn;simp only[fS,afn]at he;obtain⟨rfl,rfl⟩:=he;exact sD s hv (s.blk a _ hb).1 hn
    ·cases he
   ·rename_i t sz es hb;split at he
    ·rename_i hn;split at he
     ·rename_i es' h1 hf;simp only[fS,afn]at he;obtain⟨rfl,rfl⟩:=he;exact SC s hv hb hn hf
     ·cases he
    ·cases he
   ·cases he
  ·simp only[fS,afn]at he;obtain⟨rfl,rfl⟩:=he;exact⟨G,s,Goes.refl w G h,hv⟩
 |.agg cs,G,h,h',x,v',s,hv,he=>by
  simp only[AV.view]at he;split at he
  ·rename_i cs' h'' hcs;simp only[fS,afn]at he;obtain⟨rfl,rfl⟩:=he;obtain⟨vs,rfl,h1,h2,h3⟩:=iI hv;obtain⟨G',k1,k2,k3,k4⟩:=oG cs (xs:=λi=>vs.getD i undef) s h3 hcs;exact⟨G',k1,k2,.agg _ _ _ (by omega) (λi hi=>h2 i (by omega)) λi hi=>k4 i (by omega)⟩
  ·cases he
 |.tup cs,G,h,h',x,v',s,hv,he=>by
  simp only[AV.view]at he;split at he
  ·rename_i cs' h'' hcs;simp only[fS,afn]at he;obtain⟨rfl,rfl⟩:=he;obtain⟨vs,rfl,h1,h3⟩:=zk hv;obtain⟨G',k1,k2,k3,k4⟩:=oG cs (xs:=λi=>vs.getD i undef) s h3 hcs;exact⟨G',k1,k2,.tup _ _ _ (by omega) λi hi=>k4 i (by omega)⟩
  ·cases he
 |.iface t v,G,h,h',x,v',s,hv,he=>by
  simp only[AV.view]at he;split at he
  ·rename_i u h'' hu;simp only[fS,afn]at he;obtain⟨rfl,rfl⟩:=he;cases hv with
   |iface _ t v x hx=>
    obtain⟨G',k1,k2,k3⟩:=mS v s hx hu;exact⟨G',k1,k2,.iface _ _ _ _ k3⟩
  ·cases he
 |.top,G,h,h',x,v',s,hv,he=>by simp only[AV.view,fS,afn]at he;obtain⟨rfl,rfl⟩:=he;exact⟨G,s,Goes.refl w G h,hv⟩
 |.bool _,G,h,h',x,v',s,hv,he=>by simp only[AV.view,fS,afn]at he;obtain⟨rfl,rfl⟩:=he;exact⟨G,s,Goes.refl w G h,hv⟩
 |.int _ _,G,h,h',x,v',s,hv,he=>by simp only[AV.view,fS,afn]at he;obtain⟨rfl,rfl⟩:=he;exact⟨G,s,Goes.refl w G h,hv⟩
 |.str _,G,h,h',x,v',s,hv,he=>by simp only[AV.view,fS,afn]at he;obtain⟨rfl,rfl⟩:=he;exact⟨G,s,Goes.refl w G h,hv⟩
 |.ay,G,h,h',x,v',s,hv,he=>by simp only[AV.view,fS,afn]at he;obtain⟨rfl,rfl⟩:=he;exact⟨G,s,Goes.refl w G h,hv⟩
 |.emp,G,h,h',x,v',s,hv,he=>by simp only[AV.view,fS,afn]at he;obtain⟨rfl,rfl⟩:=he;exact⟨G,s,Goes.refl w G h,hv⟩
 |.lst _,G,h,h',x,v',s,hv,he=>by simp only[AV.view,fS,afn]at he;obtain⟨rfl,rfl⟩:=he;exact⟨G,s,Goes.refl w G h,hv⟩
 |.ptr _ _,G,h,h',x,v',s,hv,he=>by simp only[AV.view,fS,afn]at he;obtain⟨rfl,rfl⟩:=he;exact⟨G,s,Goes.refl w G h,hv⟩
 |.dN _ _ _ _ _,G,h,h',x,v',s,hv,he=>by simp only[AV.view,fS,afn]at he;obtain⟨rfl,rfl⟩:=he;exact⟨G,s,Goes.refl w G h,hv⟩
 |.eF _ _,G,h,h',x,v',s,hv,he=>by simp only[AV.view,fS,afn]at he;obtain⟨rfl,rfl⟩:=he;exact⟨G,s,Goes.refl w G h,hv⟩
 |.mI,G,h,h',x,v',s,hv,he=>by simp only[AV.view,fS,afn]at he;obtain⟨rfl,rfl⟩:=he;exact⟨G,s,Goes.refl w G h,hv⟩
 |.fn _ _ _,G,h,h',x,v',s,hv,he=>by simp only[AV.view,fS,afn]at he;obtain⟨rfl,rfl⟩:=he;exact⟨G,s,Goes.refl w G h,hv⟩
 |.iP,G,h,h',x,v',s,hv,he=>by simp only[AV.view,fS,afn]at he;obtain⟨rfl,rfl⟩:=he;exact⟨G,s,Goes.refl w G h,hv⟩
 |.jg,G,h,h',x,v',s,hv,he=>by simp only[AV.view,fS,afn]at he;obtain⟨rfl,rfl⟩:=he;exact⟨G,s,Goes.refl w G h,hv⟩
 |.mp _,G,h,h',x,v',s,hv,he=>by simp only[AV.view,fS,afn]at he;obtain⟨rfl,rfl⟩:=he;exact⟨G,s,Goes.refl w G h,hv⟩
 |.iM,G,h,h',x,v',s,hv,he=>by simp only[AV.view,fS,afn]at he;obtain⟨rfl,rfl⟩:=he;exact⟨G,s,Goes.refl w G h,hv⟩
 |.ou,G,h,h',x,v',s,hv,he=>by simp only[AV.view,fS,afn]at he;obtain⟨rfl,rfl⟩:=he;exact⟨G,s,Goes.refl w G h,hv⟩
theorem oG{p:Loc->Bool}{w:World}:∀(cs:List AV) {G:Gm} {h h':Heap} {xs:Nat->Value} {cs':List AV},Sim w G h->(∀i,i<cs.length->aD w G (dom h) (cs.getD i .top) (xs i)) ->
  AV.views p cs h=some (cs',h')->∃G',Sim w G' h'∧Goes w G h w G' h'∧cs'.length=cs.length∧∀i,i<cs.length->aD w G' (dom h') (cs'.getD i .top) (xs i)
 | [],G,h,h',xs,cs',s,hv,he=>by
  simp only[AV.views,fS,afn]at he;obtain⟨rfl,rfl⟩:=he;exact⟨G,s,Goes.refl w G h,rfl,λi hi=>by simp at hi⟩
 |c::cs,G,h,h',xs,cs',s,hv,he=>by
  simp only[AV.views]at he;split at he
  ·rename_i c' h1 hc;split at he
   ·rename_i cs2 h2 hcs;simp only[fS,afn]at he;obtain⟨rfl,rfl⟩:=he;obtain⟨G1,k1,k2,k3⟩:=mS c s (by simpa using hv 0 (by simp)) hc;obtain⟨G2,l1,l2,l3,l4⟩:=oG cs (xs:=λi=>xs (i+1)) k1 (λi hi=>(by simpa using hv (i+1) (by simpa using hi):aD w G (dom h) (cs.getD i .top) (xs (i+1))).along k2) hcs;refine⟨G2,l1,k2.trans l2,by simp[l3],λi hi=>?_⟩;cases i with
    |zero=>simpa using k3.along l2
    |succ i=>simpa using l4 i (by simpa using hi)
   ·cases he
  ·cases he
end
