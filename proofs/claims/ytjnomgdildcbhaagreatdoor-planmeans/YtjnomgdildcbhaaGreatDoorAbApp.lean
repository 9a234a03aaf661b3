/-
  Slices that are read, appended to, made.
-/
import Derived.Test.YtjnomgdildcbhaaGreatDoorAbMem
import Derived.Lib.AppendStr
set_option linter.unusedVariables false
set_option linter.unusedSimpArgs false
namespace Go.Ab
open Go.RowKit
variable{P:Program}{w:World}{G:Gm}{L:Loc->Prop}{h:Heap}
theorem ji{sz:Nat}{es:List AV}(hs:sized sz es=true){i:Nat}(hi:i<es.length):(es.getD i .top).cells.length=sz:=by
 unfold sized at hs;rw[aek]at hs;have:=hs es[i] (afi hi);simpa[iO,hi]using this
structure Flat (w:World)(G:Gm)(sz:Nat)(es:List AV)(flat:List Value):Prop where
 len:flat.length=es.length*sz
 one:∀ u∈flat,u.oneCell'=true
 sized:∀ i,i<es.length->(es.getD i .top).cells.length=sz
 rel:∀ i j,i<es.length->j<sz->az w G bF ((es.getD i .top).cells.getD j .top) (flat.getD (i*sz+j) undef)
theorem eP{i j n sz:Nat}(hi:i<n)(hj:j<sz):i*sz+j<n*sz:=by
 have:(i+1)*sz<=n*sz:=aer _ hi;rw[aex,aeV]at this;omega
theorem mR{α:Type}(d:α)(l:List α)(n j:Nat)(hj:j<n):(l.take n).getD j d=l.getD j d:=by
 simp only[iO];rw[aeI hj]
theorem zA(s:Sim w G h){v:AV}{x:Value}(hv:az w G (dom h) v x){es:List AV}(he:cP v h=some es){sz:Nat}(hsz:0<sz)(hsd:sized sz es=true) :
  ∃ p c flat,x=.slice p es.length c∧Flat w G sz es flat∧(p=none->es=[])∧∀ j u,flat[j]?=some u->∃ ad,p=some ad∧w.cell? (ad.add j)=some u:=by
 cases hv with
 |aj=>
  simp only[cP,fS]at he;subst he;exact⟨none,0,[],rfl,⟨by simp,by simp,by simp,by simp⟩,λ_=>rfl,by simp⟩
 |emp _ a=>
  simp only[cP,fS]at he;subst he;exact⟨a,0,[],rfl,⟨by simp,by simp,by simp,by simp⟩,λ_=>rfl,by simp⟩
 |lJ _ a c=>
  simp only[cP,fS]at he;subst he;exact⟨a,c,[],rfl,⟨by simp,by simp,by simp,by simp⟩,λ_=>rfl,by simp⟩
 |lst _ es' b off c sz' vf hle hs hc hv=>
  simp only[cP,fS]at he;subst he;have Cj:∀ i,i<es'.length->sz'=sz:=λi hi=>by rw[<-hs i hi,ji hsd hi]
  have hfl:∀ k,k<es'.length*sz->k / sz<es'.length∧k % sz<sz∧k / sz*sz+k % sz=k:=λk hk=>by
   refine⟨Nat.div_lt_of_lt_mul (by rwa[aeY]at hk),Nat.mod_lt _ hsz,?_⟩;rw[aeY];exact Nat.div_add_mod k sz
  refine⟨some ⟨b,off,none⟩,c,(List.range (es'.length*sz)).map λk=>vf (k / sz) (k % sz),rfl,⟨by simp,λu hu=>?_,λi hi=>ji hsd hi,λi j hi hj=>?_⟩,(λe=>by cases e),λj u hj=>⟨_,rfl,?_⟩⟩
  ·simp only[aeg,List.mem_range]at hu;obtain⟨k,hk,rfl⟩:=hu;obtain⟨h1,h2,h3⟩:=hfl k hk;exact (hc _ _ h1 (by rw[Cj _ h1];exact h2)).2.2
  ·have hk:=eP hi hj;have e1:((List.range (es'.length*sz)).map λk=>vf (k / sz) (k % sz)).getD (i*sz+j) undef=vf i j:=by
    simp only[iO,aeh,afS hk,aeK,aeE];have d1:(i*sz+j) / sz=i:=by
     rw[aeY,Nat.mul_add_div hsz,Nat.div_eq_of_lt hj,aeF]
    have d2:(i*sz+j) % sz=j:=by
     rw[aeY,Nat.mul_add_mod,Nat.mod_eq_of_lt hj]
    rw[d1,d2]
   rw[e1];exact hv i j hi (by rw[Cj i hi];exact hj)
  ·have hk:j<es'.length*sz:=by
    have:=(adW.1 hj).1;simpa using this
   obtain⟨h1,h2,h3⟩:=hfl j hk;simp only[aeh,afS hk,aeK,fS]at hj;rw[<-hj,eY];have:=(hc (j / sz) (j % sz) h1 (by rw[Cj _ h1];exact h2)).1;rw[Cj _ h1,aeP,h3]at this;exact this
 |own _ a n m x hLa hm hle ho hx=>
  simp only[cP]at he;split at he
  ·rename_i tb s' vw es' hb;split at he
   ·rename_i hn;injection he with he;subst he
    obtain⟨h0,hd⟩:=s.blk a _ hb;have hmn:m=n:=by rw[hm]at h0;injection h0 with h0;omega
    have hxe:=hx hmn;rcases hd with⟨h1,h2⟩ |⟨b,c,h1,h2,h3,h4,h5,h6,h7,h8⟩
    ·subst h2;simp only[adZ]at hn;subst hn;unfold cL at hxe;rw[h1]at hxe;exact⟨none,0,[],hxe,⟨by simp,by simp,by simp,by simp⟩,λ_=>rfl,by simp⟩
    ·unfold cL at hxe;rw[h1]at hxe;have Cj:∀ i,i<es'.length->s'=sz:=λi hi=>by rw[<-(h7 i hi).1,ji hsd hi]
     have hcs:es'.length*sz<=c.size:=by
      rcases Nat.eq_zero_or_pos es'.length with z |z
      ·rw[z];simp
      ·rw[h3,Cj 0 z];exact aer _ h5
     refine⟨some ⟨b,0,none⟩,G.cap a,c.toList.take (es'.length*sz),by rw[hxe,hn],⟨by simp;omega,λu hu=>?_,λi hi=>ji hsd hi,λi j hi hj=>?_⟩,(λe=>by cases e),λj u hj=>⟨_,rfl,?_⟩⟩
     ·obtain⟨k,hk,rfl⟩:=afn hu;simp only[ae9,aew]at hk;have hk':k<es'.length*sz:=by omega
      have hi:k / sz<es'.length:=Nat.div_lt_of_lt_mul (by rwa[aeY]at hk');have hkk:k / sz*sz+k % sz=k:=by rw[aeY];exact Nat.div_add_mod k sz
      have:=((h7 (k / sz) hi).2 (k % sz) (by rw[Cj _ hi];exact Nat.mod_lt _ hsz)).1;rw[Cj _ hi,hkk]at this;rw[aec,aeC (by omega)]at this;simpa using this
     ·rw[mR _ _ _ _ (eP hi hj),getD_toList undef c];have:=((h7 i hi).2 j (by rw[Cj i hi];exact hj)).2;rwa[Cj i hi]at this
     ·have hk:j<es'.length*sz:=by
       have:=(adW.1 hj).1;simp at this;omega
      rw[aeI hk]at hj;rw[eY,ad7,cell_of_row w b j c tb (0,0) h2];simpa using hj
   ·cases he
  ·cases he
 |_=>simp only[cP]at he;cases he
theorem Flat.arr{sz:Nat}{es:List AV}{flat:List Value}(k:Flat w G sz es flat){c:Array Value}(hc:c.toList.take (es.length*sz)=flat) :
  ∀ i,i<es.length->(es.getD i .top).cells.length=sz∧∀ j,j<sz->(c.getD (i*sz+j) undef).oneCell'=true∧az w G bF ((es.getD i .top).cells.getD j .top) (c.getD (i*sz+j) undef):=by
 intro i hi;refine⟨k.sized i hi,λj hj=>?_⟩;have hk:=eP hi hj;have e1:c.getD (i*sz+j) undef=flat.getD (i*sz+j) undef:=by
  rw[<-hc,mR _ _ _ _ hk,getD_toList undef c]
 rw[e1];refine⟨k.one _ ?_,k.rel i j hi hj⟩;have hlt:i*sz+j<flat.length:=by rw[k.len];exact hk
 rw[iO,aea hlt];exact afi hlt
theorem Flat.append{sz:Nat}{es ds:List AV}{f g:List Value}(k:Flat w G sz es f)(l:Flat w G sz ds g):Flat w G sz (es++ds) (f++g) where
 len:=by rw[ad9,k.len,l.len,ad9,aex]
 one u hu:=by
  rcases aep.1 hu with hu |hu
  ·exact k.one u hu
  ·exact l.one u hu
 sized i hi:=by
  rw[ad9]at hi;simp only[iO,List.getElem?_append];split
  ·rename_i h1;simpa[iO]using k.sized i h1
  ·rename_i h1;simpa[iO]using l.sized (i-es.length) (by omega)
 rel i j hi hj:=by
  rw[ad9]at hi;by_cases c:i<es.length
  ·have hlt:=eP c hj;have e1:(es++ds).getD i .top=es.getD i .top:=by simp only[iO];rw[aej c]
   have e2:(f++g).getD (i*sz+j) undef=f.getD (i*sz+j) undef:=by simp only[iO];rw[aej (by rw[k.len];exact hlt)]
   rw[e1,e2];exact k.rel i j c hj
  ·have e1:(es++ds).getD i .top=ds.getD (i-es.length) .top:=by simp only[iO];rw[aez (by omega)]
   have hge:es.length*sz<=i*sz:=aer _ (by omega);have e2:(f++g).getD (i*sz+j) undef=g.getD ((i-es.length)*sz+j) undef:=by
    simp only[iO];rw[aez (by rw[k.len];omega),k.len,Nat.sub_mul]
    congr 2
    omega
   rw[e1,e2];exact l.rel (i-es.length) j (by omega) hj
theorem Flat.mono{w':World}{G':Gm}{sz:Nat}{es:List AV}{f:List Value}(k:Flat w G sz es f)(hI:aN w G w' G'):Flat w' G' sz es f:=
 ⟨k.len,k.one,k.sized,λi j hi hj=>(k.rel i j hi hj).mono hI λ_ e=>e.elim⟩
theorem Flat.OG{sz:Nat}{es:List AV}{c:Array Value}(hcs:es.length*sz<=c.size)
  (h7:∀ i,i<es.length->(es.getD i .top).cells.length=sz∧∀ j,j<sz->(c.getD (i*sz+j) undef).oneCell'=true∧az w G bF ((es.getD i .top).cells.getD j .top) (c.getD (i*sz+j) undef)) (hsz:0<sz) :
  Flat w G sz es (c.toList.take (es.length*sz)) where
 len:=by simp;omega
 one u hu:=by
  obtain⟨k,hk,rfl⟩:=afn hu;simp only[ae9,aew]at hk;have hk':k<es.length*sz:=by omega
  have hi:k / sz<es.length:=Nat.div_lt_of_lt_mul (by rwa[aeY]at hk');have hkk:k / sz*sz+k % sz=k:=by rw[aeY];exact Nat.div_add_mod k sz
  have:=((h7 (k / sz) hi).2 (k % sz) (Nat.mod_lt _ hsz)).1;rw[hkk]at this;rw[aec,aeC (by omega)]at this;simpa using this
 sized i hi:=(h7 i hi).1
 rel i j hi hj:=by
  rw[mR _ _ _ _ (eP hi hj),getD_toList undef c];exact ((h7 i hi).2 j hj).2
structure nT (w w':World)(old:Option Nat)(el:TypeId)(sz:Nat)(xs:List Value)(n g cap:Nat)(cur:Array Value):Prop where
 os:w'.os=w.os
 tape:w'.tape=w.tape
 output:w'.output=w.output
 size:w.heap.size<=w'.heap.size
 here:w'.heap[g]?=some (.cells cur el (0,0))
 rows:cur.size=cap*sz
 fits:n<=cap
 most:cap<=maxLen
 take:cur.toList.take (n*sz)=xs
 other:∀ k,k<w.heap.size->k≠g->w'.heap[k]?=w.heap[k]?
 which:old=some g∨w.heap.size<=g
theorem Et{t ty el:TypeId}{i:TypeInfo}{z:Value}(ht:P.underlying t=some (.slice el))(hi:P.info? el=some i)(hz:i.zero=some z)(hzs:z.cells.size=i.size)(hsz:0<i.size)
  {v:Value} {n:Nat} {xs:List Value} (hxl:xs.length=n*i.size)
  (hv:(v=.slice none 0 0∧n=0)∨(∃ ad,v=.slice (some ad) 0 0∧n=0) ∨
   ∃ b cap c,v=.slice (some ⟨b,0,none⟩) n cap∧w.heap[b]?=some (.cells c el (0,0))∧c.size=cap*i.size∧n<=cap∧cap<=maxLen∧c.toList.take (n*i.size)=xs)
  {ad:Addr} {m k:Nat} {news:List Value} (hl:news.length=m*i.size) (hnews:∀ j u,news[j]?=some u->w.cell? (ad.add j)=some u) (h1:∀ u∈news,u.oneCell'=true)
  (hm:0<m) (hb:(n+m)*i.bytes<=room) (hr:n+m<=room) :
  ∃ w' g cap cur,(Builtin.append_ #[t,t] ty #[v,.slice (some ad) m k]).run P w=.ok (.slice (some ⟨g,0,none⟩) (n+m) cap) w' ∧
   nT w w' (match v with |.slice (some p) _ (_+1)=>some p.block |_=>none) el i.size (xs++news) (n+m) g cap cur:=by
 have hroom:n+m<=1099511627776:=hr;have hbytes:(n+m)*i.bytes<=1099511627776:=hb;have hlen:(xs++news).length=(n+m)*i.size:=by rw[ad9,hxl,hl,aex]
 have grown:∀ (old:Nat) (ob:Option Nat),nT w (w.drew.alloc (.cells (xs.toArray++news.toArray++Builtin.zeroCells z.cells (grownCap w (n+m) old el-(n+m))) el)) ob el i.size (xs++news) (n+m)
   w.heap.size (grownCap w (n+m) old el) (xs.toArray++news.toArray++Builtin.zeroCells z.cells (grownCap w (n+m) old el-(n+m))):=λold ob=>by
  have hge:=grownCap_ge w (n+m) old el;refine⟨rfl,rfl,rfl,by simp,heap_alloc_new w.drew _,?_,hge,grownCap_le_maxLen w (n+m) old el (by unfold maxLen;omega),?_,λk hk _=>heap_alloc_old w.drew _ hk,.inr (adX _)⟩
  ·simp only[Array.size_append,aeN,size_zeroCells,hzs,hxl,hl,<-Nat.add_mul]
   congr 1
   omega
  ·simp only[Array.toList_append,aeH];rw[<-List.append_assoc,<-hlen];exact afG
 rcases hv with⟨rfl,rfl⟩ |⟨ad0,rfl,rfl⟩ |⟨b,cap,c,rfl,hbk,hcs,hnc,hcm,htake⟩
 ·have hx:xs=[]:=aes (by simpa using hxl);subst hx;have hr:=run_append_nil (P:=P) w t ty el i z ht hi hz ad m k news hl hnews hm (by omega) (by have hb:=hbytes;simp only[ad7]at hb;omega);have hg:=grown 0 none;simp only[ad7,aeb,Array.empty_append]at hg ⊢;exact⟨_,_,_,_,hr,hg⟩
 ·have hx:xs=[]:=aes (by simpa using hxl);subst hx;have hr:=run_append_grow (P:=P) w t ty el i z ht hi hz ad0 0 0 [] (by simp) (by simp) ad m k news hl hnews (by omega) (by omega) (growslice_fits (by omega) (by omega));exact⟨_,_,_,_,hr,grown 0 none⟩
 ·by_cases hfit:n+m<=cap
  ·have hf:n*i.size+news.length<=c.size:=by rw[hl,hcs,<-Nat.add_mul];exact aer _ hfit
   have hr:=run_append_room (P:=P) w t ty el i ht hi b n cap c hbk ad m k news hl hnews h1 hfit hf;refine⟨_,_,_,_,hr,rfl,rfl,rfl,by simp,setRow_heap w b c _ el _ hbk,?_,hfit,hcm,?_,λk _ hk=>setRow_other w b k _ hk,.inl ?_⟩
   ·simp only[aeN,ad9,ae9,List.length_drop,aew];omega
   ·simp only;rw[htake,<-hlen];exact afG
   ·cases cap with
    |zero=>omega
    |succ q=>rfl
  ·have holds:∀ j u,xs[j]?=some u->w.cell? ((⟨b,0,none⟩:Addr).add j)=some u:=λj u hj=>by
    have hjl:=(adW.1 hj).1;rw[<-htake,aeI (by omega)]at hj;rw[eY,ad7,cell_of_row w b j c el (0,0) hbk];simpa using hj
   have hr:=run_append_grow (P:=P) w t ty el i z ht hi hz ⟨b,0,none⟩ n cap xs hxl holds ad m k news hl hnews (by omega) (by omega) (growslice_fits (by omega) (by omega));exact⟨_,_,_,_,hr,grown cap _⟩
theorem OH{t u ty el:TypeId}{i:TypeInfo}{z:Value}(ht:P.underlying t=some (.slice el))(hu:P.underlying u=some .string)(hi:P.info? el=some i)(hz:i.zero=some z)(hzs:z.cells.size=i.size)(hsz:i.size=1)
  {v:Value} {n:Nat} {xs:List Value} (hxl:xs.length=n*i.size)
  (hv:(v=.slice none 0 0∧n=0)∨(∃ ad,v=.slice (some ad) 0 0∧n=0) ∨
   ∃ b cap c,v=.slice (some ⟨b,0,none⟩) n cap∧w.heap[b]?=some (.cells c el (0,0))∧c.size=cap*i.size∧n<=cap∧cap<=maxLen∧c.toList.take (n*i.size)=xs)
  {s:ByteArray} (hm:0<s.size) (hb:(n+s.size)*i.bytes<=room) (hr:n+s.size<=room) :
  ∃ w' g cap cur,(Builtin.append_ #[t,u] ty #[v,.string s]).run P w=.ok (.slice (some ⟨g,0,none⟩) (n+s.size) cap) w' ∧
   nT w w' (match v with |.slice (some p) _ (_+1)=>some p.block |_=>none) el i.size (xs++Lib.strCells s) (n+s.size) g cap cur:=by
 have hroom:n+s.size<=1099511627776:=hr;have hbytes:(n+s.size)*i.bytes<=1099511627776:=hb;have hlen:(xs++Lib.strCells s).length=(n+s.size)*i.size:=by rw[ad9,hxl,Lib.strCells_length,aex,hsz,aeU,aeU]
 have grown:∀ (old:Nat) (ob:Option Nat),nT w (w.drew.alloc (.cells (xs.toArray++(Lib.strCells s).toArray++Builtin.zeroCells z.cells (grownCap w (n+s.size) old el-(n+s.size))) el)) ob el i.size (xs++Lib.strCells s) (n+s.size)
   w.heap.size (grownCap w (n+s.size) old el) (xs.toArray++(Lib.strCells s).toArray++Builtin.zeroCells z.cells (grownCap w (n+s.size) old el-(n+s.size))):=λold ob=>by
  have hge:=grownCap_ge w (n+s.size) old el;refine⟨rfl,rfl,rfl,by simp,heap_alloc_new w.drew _,?_,hge,grownCap_le_maxLen w (n+s.size) old el (by unfold maxLen;omega),?_,λk hk _=>heap_alloc_old w.drew _ hk,.inr (adX _)⟩
  ·simp only[Array.size_append,aeN,size_zeroCells,hzs,hxl,Lib.strCells_length,hsz,aeU];omega
  ·simp only[Array.toList_append,aeH];rw[<-List.append_assoc,<-hlen];exact afG
 rcases hv with⟨rfl,rfl⟩ |⟨ad0,rfl,rfl⟩ |⟨b,cap,c,rfl,hbk,hcs,hnc,hcm,htake⟩
 ·have hx:xs=[]:=aes (by simpa using hxl);subst hx;have hr:=run_append_nil_string (P:=P) w t u ty el i z ht hu hi hz s (by omega) (by omega) (by have hb:=hbytes;simp only[ad7]at hb;omega);have e1:(s.data.map λb=>Value.int .u8 b.toNat)=(Lib.strCells s).toArray:=by
   apply Array.ext';simp[Lib.strCells]
  rw[e1]at hr;have hg:=grown 0 none;simp only[ad7,aeb,Array.empty_append]at hg ⊢;exact⟨_,_,_,_,hr,hg⟩
 ·have hx:xs=[]:=aes (by simpa using hxl);subst hx;have hr:=Lib.run_append_grow_string (P:=P) w t u ty el i z ht hu hi hz ad0 0 0 [] (by simp) (by simp) s (by omega) (by omega) (growslice_fits (by omega) (by omega));exact⟨_,_,_,_,hr,grown 0 none⟩
 ·by_cases hfit:n+s.size<=cap
  ·have hf:n+s.size<=c.size:=by rw[hcs,hsz,aeU];exact hfit
   have hr:=Lib.run_append_room_string (P:=P) w t u ty el i ht hu hi hsz b n cap c hbk s hfit hf;refine⟨_,_,_,_,hr,rfl,rfl,rfl,by simp,setRow_heap w b c _ el _ hbk,?_,hfit,hcm,?_,λk _ hk=>setRow_other w b k _ hk,.inl ?_⟩
   ·simp only[aeN,ad9,ae9,List.length_drop,aew,Lib.strCells_length];omega
   ·have ht':c.toList.take n=xs:=by rw[<-htake,hsz,aeU]
    simp only;rw[ht',<-hlen];exact afG
   ·cases cap with
    |zero=>omega
    |succ q=>rfl
  ·have holds:∀ j u,xs[j]?=some u->w.cell? ((⟨b,0,none⟩:Addr).add j)=some u:=λj u hj=>by
    have hjl:=(adW.1 hj).1;rw[<-htake,aeI (by omega)]at hj;rw[eY,ad7,cell_of_row w b j c el (0,0) hbk];simpa using hj
   have hr:=Lib.run_append_grow_string (P:=P) w t u ty el i z ht hu hi hz ⟨b,0,none⟩ n cap xs hxl holds s (by omega) (by omega) (growslice_fits (by omega) (by omega));exact⟨_,_,_,_,hr,grown cap _⟩
theorem L9{t u ty el:TypeId}{i:TypeInfo}(ht:P.underlying t=some (.slice el))(hu:P.underlying u=some .string)(hi:P.info? el=some i)(hsz:i.size=1){q:Option Addr}{n cap:Nat}(hn:n<=cap){s:ByteArray}(hs:s.size=0) :
  (Builtin.append_ #[t,u] ty #[.slice q n cap,.string s]).run P w=.ok (.slice q n cap) w:=by
 have hf:=Lib.run_firstCells_string (P:=P) w i.size s;have h0:Lib.strCells s=[]:=aes (by rw[Lib.strCells_length];exact hs);rw[hs,h0]at hf;cases q with
 |none=>simp[Builtin.append_,run_underlying ht,run_underlying hu,sizeOf,typeInfo,hi,Builtin.lenOf,hn,hf,hs]
 |some a=>simp[Builtin.append_,run_underlying ht,run_underlying hu,sizeOf,typeInfo,hi,Builtin.lenOf,hn,hf,hs,storeCells]
theorem OI{t ty el:TypeId}{i:TypeInfo}(ht:P.underlying t=some (.slice el))(hi:P.info? el=some i){q:Option Addr}{n cap:Nat}(hn:n<=cap)(p:Option Addr)(k:Nat) :
  (Builtin.append_ #[t,t] ty #[.slice q n cap,.slice p 0 k]).run P w=.ok (.slice q n cap) w:=by
 have hf:(Builtin.firstCells i.size 0 (.slice p 0 k)).run P w=.ok #[] w:=by
  cases p with
  |none=>rfl
  |some ad=>simp[Builtin.firstCells,loadCells,loadCellsFrom]
 cases q with
 |none=>simp[Builtin.append_,run_underlying ht,sizeOf,typeInfo,hi,Builtin.lenOf,hn,hf]
 |some a=>simp[Builtin.append_,run_underlying ht,sizeOf,typeInfo,hi,Builtin.lenOf,hn,hf,storeCells]
theorem zx{w':World}(s:Sim w G h)(hn:h≠[]){el:TypeId}{sz:Nat}{es:List AV}{flat:List Value}(hf:Flat w G sz es flat)(hsz:0<sz){g cap:Nat}{cur:Array Value}
  (ho:nT w w' none el sz flat es.length g cap cur) :
  Sim w' (G.at_ (hnext h) (some g) (some es.length) cap) (hnew h (.arr el sz false es)) ∧
  Goes w G h w' (G.at_ (hnext h) (some g) (some es.length) cap) (hnew h (.arr el sz false es)) ∧
  az w' (G.at_ (hnext h) (some g) (some es.length) cap) (dom (hnew h (.arr el sz false es))) (.own (hnext h) es.length) (.slice (some ⟨g,0,none⟩) es.length cap):=by
 have hg:w.heap.size<=g:=ho.which.resolve_left (by simp);have hb:∀ k,k<w.heap.size->w'.heap[k]?=w.heap[k]?:=λk hk=>ho.other k hk (by omega)
 have gg:=Goes.new (w':=w') (B:=.arr el sz false es) (b:=some g) (n:=some es.length) (c:=cap) s hn ho.os ho.tape ho.output ho.size hb (λk hk=>by injection hk with hk;omega);refine⟨s.new hn ho.size hb (λk hk=>by injection hk with hk;omega) ?_,gg,?_⟩
 ·refine⟨by simp[Gm.at_],.inr ⟨g,cur,by simp[Gm.at_],ho.here,by simpa[Gm.at_]using ho.rows,hsz,by simpa[Gm.at_]using ho.fits,by simpa[Gm.at_]using ho.most,(hf.mono gg.imm).arr ho.take,λo hi=>?_⟩⟩;have:=s.imm _ _ hi;omega
 ·refine .own _ _ _ es.length _ ((cJ hn _ _).2 (.inl rfl)) (by simp[Gm.at_]) (adX _) (.inr ⟨g,cap,rfl⟩) λ_=>?_
  simp[cL,Gm.at_]
def bX(P:Program)(w:World)(G:Gm)(h:Heap)(a:Act)(o:Oper)(v:AV)(h':Heap):Prop:=
 ∃ n x w' G',(execOp a.eval o).run P w=.ok n w'∧(n=.value x∨(n=.skip∧x=undef))∧Sim w' G' h'∧Goes w G h w' G' h'∧az w' G' (dom h') v x
theorem Gs(s:Sim w G h)(hn:h≠[]){e:Env}{a:Act}(he:aC w G (dom h) e a){o:Oper}{c:Call}{t u el:TypeId}{i:TypeInfo}{z:AV}{S X:Operand}{S':Opd}
  (ho:o.op=.call c) (hc:c.callee=.builtin .append) (hargs:c.args.toList=[S,X]) (hS:aK S=some S') (ht0:c.argTypes[0]?=some t) (ht1:c.argTypes[1]?=some u)
  (hu:P.underlying t=some (.slice el)) (hi:P.info? el=some i) (hz:zeroOf P el=some z) (hsz:0<i.size)
  {news:List AV} {flat:List Value} (hfl:Flat w G i.size news flat)
  (R0:news=[]->∀ q n cap,n<=cap->(Builtin.append_ #[t,u] o.type #[.slice q n cap,a.eval X]).run P w=.ok (.slice q n cap) w)
  (RN:news≠[]->∀ (v:Value) (n:Nat) (xs:List Value),xs.length=n*i.size->((v=.slice none 0 0∧n=0)∨(∃ ad,v=.slice (some ad) 0 0∧n=0) ∨
   ∃ b cap c,v=.slice (some ⟨b,0,none⟩) n cap∧w.heap[b]?=some (.cells c el (0,0))∧c.size=cap*i.size∧n<=cap∧cap<=maxLen∧c.toList.take (n*i.size)=xs) ->
   (n+news.length)*i.bytes<=room->n+news.length<=room->∃ w' g cap cur,(Builtin.append_ #[t,u] o.type #[v,a.eval X]).run P w=.ok (.slice (some ⟨g,0,none⟩) (n+news.length) cap) w' ∧
   nT w w' (match v with |.slice (some p) _ (_+1)=>some p.block |_=>none) el i.size (xs++flat) (n+news.length) g cap cur)
  {v:AV} {h':Heap} (hev:uJ el i.size i.bytes (S'.ev e) news h=some (.val v h')):bX P w G h a o v h':=by
 have hrS:=aF he hS;have hA:c.args=#[S,X]:=by rw[<-Array.toArray_toList (xs:=c.args),hargs]
 have hop:∀ (r:Result Value),(Builtin.append_ #[t,u] o.type #[a.eval S,a.eval X]).run P w=r->(execOp a.eval o).run P w=r.andThen λx w'=>.ok (.value x) w':=λr hr=>by
  have e1:Builtin.append_ c.argTypes o.type #[a.eval S,a.eval X]=Builtin.append_ #[t,u] o.type #[a.eval S,a.eval X]:=by
   unfold Builtin.append_;simp only[ht0,ht1];rfl
  simp only[execOp,ho,resolve,hc,hA,afa,Io,aei,ad3,aeD,aeo,invoke,builtin,e1,hr]
 unfold uJ at hev;have nothing:news=[]->∀ q n cap,a.eval S=.slice q n cap->n<=cap->∀ v,az w G (dom h) v (a.eval S)->bX P w G h a o v h:=λh0 q n cap hq hnc v hv=>by
  subst h0;have hr:=R0 rfl q _ _ hnc;refine⟨.value (a.eval S),a.eval S,w,G,?_,.inl rfl,s,Goes.refl w G h,hv⟩;rw[hop (.ok (.slice q n cap) w) (by rw[hq];exact hr),hq];rfl
 have fresh:∀ (dst:Value),a.eval S=dst->(dst=.slice none 0 0∨∃ ad,dst=.slice (some ad) 0 0)->news≠[]->news.length*i.bytes<=room∧news.length<=room ->
   bX P w G h a o (.own (hnext h) news.length) (hnew h (.arr el i.size false news)):=λdst hd hdc hnn hrm=>by
  obtain⟨w',g,cap,cur,hrun,hout⟩:=RN hnn dst 0 [] (by simp) (by
   rcases hdc with h0 |⟨ad,h0⟩
   ·exact .inl ⟨h0,rfl⟩
   ·exact .inr (.inl ⟨ad,h0,rfl⟩)) (by simpa using hrm.1) (by simpa using hrm.2)
  have hold:(match dst with |.slice (some p) _ (_+1)=>some p.block |_=>none)=none:=by
   rcases hdc with rfl |⟨ad,rfl⟩<;>rfl
  rw[hold]at hout;simp only[aeb,ad7]at hout hrun;obtain⟨k1,k2,k3⟩:=zx s hn hfl hsz hout;refine⟨.value _,_,w',_,?_,.inl rfl,k1,k2,k3⟩;rw[hop (.ok (.slice (some ⟨g,0,none⟩) news.length cap) w') (by rw[hd];exact hrun)];rfl
 split at hev
 ·rename_i la n hSv;rw[hSv]at hrS;split at hev
  ·rename_i tb sz' vw es hb;split at hev
   ·rename_i cc;obtain⟨c1,c2,c3,c4⟩:=cc;injection hev with hev
    injection hev with wH wI
    subst wH;subst wI;subst c1;generalize hSx:a.eval S=sx at hrS;cases hrS with
    |own _ la n m sx hLa hm hle hov hx=>
     obtain⟨h0,hd⟩:=s.blk la _ hb;have hmn:m=es.length:=by rw[hm]at h0;injection h0
     have hxe:=hx hmn;have hform:∃ q cap,sx=.slice q es.length cap∧es.length<=cap:=by
      rcases hd with⟨q1,q2⟩ |⟨b,cs,q1,q2,q3,q4,q5,q6,q7,q8⟩
      ·subst q2;exact⟨none,0,by rw[hxe];unfold cL;rw[q1];rfl,adX _⟩
      ·exact⟨some ⟨b,0,none⟩,G.cap la,by rw[hxe];unfold cL;rw[q1],q5⟩
     by_cases hnn:news=[]
     ·subst hnn;obtain⟨q,cap,hq,UU⟩:=hform;have hr:=R0 rfl q _ _ UU;have hgk:Goes w G h w G (aR h la (.arr el i.size vw (es++[]))):=
       Goes.update hLa rfl rfl rfl (adX _) (λ_ _ _=>rfl) (λ_ _=>⟨rfl,rfl,rfl⟩) (Agree.refl G la) (aN.refl w G) (λ_ hk=>.inl hk) (λ_ _ hk=>.inl hk)
      refine⟨.value sx,sx,w,G,?_,.inl rfl,s.update hLa (adX _) (λ_ _ _=>rfl) (λ_ _=>⟨rfl,rfl,rfl⟩) (Agree.refl G la) (aN.refl w G) (λ_ _ hk=>.inl hk) (λ_ hk=>.inl hk) ?_,hgk,?_⟩
      ·rw[hop (.ok (.slice q es.length cap) w) (by rw[hSx,hq];exact hr),hq];rfl
      ·rw[ael];refine⟨h0,?_⟩;rcases hd with⟨q1,q2⟩ |⟨b,cs,q1,q2,q3,q4,q5,q6,q7,q8⟩
       ·exact .inl ⟨q1,q2⟩
       ·obtain⟨e1,e2⟩:=c4.resolve_left (by omega);subst e1;subst e2;exact .inr ⟨b,cs,q1,q2,q3,q4,q5,q6,q7,q8⟩
      ·exact (az.own _ la _ m sx hLa hm hle hov hx).along hgk
     ·
      have hpos:0<news.length:=afu.2 hnn;have hxs:∃ xs,Flat w G i.size es xs∧((sx=.slice none 0 0∧es.length=0)∨(∃ ad,sx=.slice (some ad) 0 0∧es.length=0) ∨
        ∃ b cap cs,sx=.slice (some ⟨b,0,none⟩) es.length cap∧w.heap[b]?=some (.cells cs el (0,0))∧cs.size=cap*i.size∧es.length<=cap∧cap<=maxLen∧cs.toList.take (es.length*i.size)=xs) ∧
        ∀ b,(match sx with |.slice (some p) _ (_+1)=>some p.block |_=>none)=some b->G.blk la=some b:=by
       rcases hd with⟨q1,q2⟩ |⟨b,cs,q1,q2,q3,q4,q5,q6,q7,q8⟩
       ·subst q2;have:sx=.slice none 0 0:=by rw[hxe];unfold cL;rw[q1]
        exact⟨[],⟨by simp,by simp,by simp,by simp⟩,.inl ⟨this,rfl⟩,λb hb'=>by rw[this]at hb';cases hb'⟩
       ·obtain⟨e1,e2⟩:=c4.resolve_left (by omega);subst e1;subst e2;have:sx=.slice (some ⟨b,0,none⟩) es.length (G.cap la):=by rw[hxe];unfold cL;rw[q1]
        refine⟨cs.toList.take (es.length*i.size),Flat.OG (by rw[q3];exact aer _ q5) q7 hsz,.inr (.inr ⟨b,_,cs,this,q2,q3,q5,q6,rfl⟩),λb' hb'=>?_⟩;rw[this]at hb';split at hb'
        ·rename_i hsl;injection hsl with e1 _ _
         injection e1 with e1
         injection hb' with hb'
         rw[q1,<-hb',<-e1]
        ·cases hb'
      obtain⟨xs,hxf,hxd,hob⟩:=hxs;obtain⟨w',g,cap,cur,hrun,hout⟩:=RN hnn sx es.length xs hxf.len hxd c2 c3;have Gu:∀ k q,G.imm k q->k=g->vw=true∧q<es.length*i.size∧G.blk la=some g:=λk q hk e=>by
       subst e;rcases hout.which with e1 |e1
       ·have hbg:=hob _ e1;rcases hd with⟨q1,q2⟩ |⟨b,cs,q1,q2,q3,q4,q5,q6,q7,q8⟩
        ·rw[q1]at hbg;cases hbg
        ·obtain⟨_,e2⟩:=c4.resolve_left (by omega);rw[q1]at hbg;injection hbg with hbg;subst hbg
         have:=q8 q hk;rw[e2]at this;exact⟨this.1,this.2,q1⟩
       ·have:=s.imm _ _ hk;omega
      have hI:aN w G w' (G.at_ la (some g) (some (es.length+news.length)) cap):=λk q hk=>by
       refine⟨hk,?_⟩;by_cases e:k=g
       ·subst e;obtain⟨_,h2,h3⟩:=Gu k q hk rfl;rcases hd with⟨q1,q2⟩ |⟨b,cs,q1,q2,q3,q4,q5,q6,q7,q8⟩
        ·rw[q1]at h3;cases h3
        ·obtain⟨e1,e2⟩:=c4.resolve_left (by omega);subst e1;subst e2;rw[q1]at h3;injection h3 with h3;subst h3
         rw[cell_of_row w' b q cur tb (0,0) hout.here,cell_of_row w b q cs tb (0,0) q2];have ado:xs=cs.toList.take (es.length*i.size):=by
          rcases hxd with⟨hx1,_⟩ |⟨ad',hx1,hx2⟩ |⟨b',cap',cs',hx1,hx2,_,_,_,hx3⟩
          ·rw[hxe]at hx1;unfold cL at hx1;rw[q1]at hx1;cases hx1
          ·have:xs=[]:=aes (by rw[hxf.len,hx2];simp);rw[this,hx2];simp
          ·rw[hxe]at hx1;unfold cL at hx1;rw[q1]at hx1;injection hx1 with hx1
           injection hx1 with hx1
           injection hx1 with hx1
           subst hx1;rw[q2]at hx2;injection hx2 with hx2
           injection hx2 with hx2
           subst hx2;exact hx3.symm
         have e3:cur.toList[q]?=(xs++flat)[q]?:=by
          rw[<-hout.take,aeI (by rw[aex];omega)]
         rw[aej (by rw[hxf.len];exact h2),ado,aeI h2]at e3;simpa using e3
       ·exact aeW (hout.other k (s.imm k q hk) e)
      have hG:∀ a',a'≠la->(G.at_ la (some g) (some (es.length+news.length)) cap).blk a'=G.blk a'∧(G.at_ la (some g) (some (es.length+news.length)) cap).len a'=G.len a' ∧
        (G.at_ la (some g) (some (es.length+news.length)) cap).cap a'=G.cap a':=λa' e=>by simp[Gm.at_,e]
      have hAg:Agree G (G.at_ la (some g) (some (es.length+news.length)) cap) la:=.inr ⟨es.length,es.length+news.length,h0,by simp[Gm.at_],by omega⟩;have hbl:∀ b,b<w.heap.size->G.blk la≠some b->w'.heap[b]?=w.heap[b]?:=λb hb1 hb2=>by
       refine hout.other b hb1 λe=>?_
       subst e;rcases hout.which with e1 |e1
       ·exact hb2 (hob _ e1)
       ·omega
      have hnw:∀ b,(G.at_ la (some g) (some (es.length+news.length)) cap).blk la=some b->G.blk la=some b∨w.heap.size<=b:=λb hb1=>by
       have:g=b:=by simpa[Gm.at_]using hb1
       subst this;rcases hout.which with e1 |e1
       ·exact .inl (hob _ e1)
       ·exact .inr e1
      have hgo:=Goes.update (B:=.arr el i.size vw (es++news)) hLa hout.os hout.tape hout.output hout.size hbl hG hAg hI hnw (λ_ _ hk=>.inl hk);refine⟨.value (.slice (some ⟨g,0,none⟩) (es.length+news.length) cap),.slice (some ⟨g,0,none⟩) (es.length+news.length) cap,w',_,?_,.inl rfl,
       s.update hLa hout.size hbl hG hAg hI (λ_ _ hk=>.inl hk) hnw ?_,hgo,?_⟩
      ·rw[hop (.ok (.slice (some ⟨g,0,none⟩) (es.length+news.length) cap) w') (by rw[hSx];exact hrun)];rfl
      ·refine⟨by simp[Gm.at_],.inr ⟨g,cur,by simp[Gm.at_],hout.here,by simpa[Gm.at_]using hout.rows,hsz,by simpa[Gm.at_]using hout.fits,by simpa[Gm.at_]using hout.most,
        ((hxf.append hfl).mono hI).arr (by rw[ad9];exact hout.take),λq hk=>?_⟩⟩
       obtain⟨k1,k2,_⟩:=Gu g q hk rfl;rw[ad9,aex];exact⟨k1,by omega⟩
      ·refine .own _ la _ (es.length+news.length) _ ((bz h la la _).2 hLa) (by simp[Gm.at_]) (adX _) (.inr ⟨g,cap,rfl⟩) λ_=>?_
       simp[cL,Gm.at_]
   ·cases hev
  ·cases hev
 ·rename_i hSv;rw[hSv]at hrS;have hSx:a.eval S=.slice none 0 0:=by
   generalize a.eval S=sx at hrS;cases hrS;rfl
  split at hev
  ·rename_i h0;injection hev with hev
   injection hev with wH wI
   subst wH;subst wI;exact nothing h0 _ _ _ hSx (adX _) _ hrS
  ·rename_i h0;split at hev
   ·rename_i hrm;injection hev with hev
    injection hev with wH wI
    subst wH;subst wI;exact fresh _ hSx (.inl rfl) h0 hrm
   ·cases hev
 ·rename_i hSv;rw[hSv]at hrS;have hSx:∃ q,a.eval S=.slice q 0 0:=by
   generalize a.eval S=sx at hrS;cases hrS with
   |emp _ q=>exact⟨_,rfl⟩
  obtain⟨q,hSx⟩:=hSx;split at hev
  ·rename_i h0;injection hev with hev
   injection hev with wH wI
   subst wH;subst wI;exact nothing h0 _ _ _ hSx (adX _) _ hrS
  ·rename_i h0;split at hev
   ·rename_i hrm;injection hev with hev
    injection hev with wH wI
    subst wH;subst wI;exact fresh _ hSx (by cases q with |none=>exact .inl rfl |some ad=>exact .inr ⟨ad,rfl⟩) h0 hrm
   ·cases hev
 ·cases hev
theorem OJ(s:Sim w G h)(hn:h≠[]){e:Env}{a:Act}(he:aC w G (dom h) e a){o:Oper}{c:Call}{t el:TypeId}{i:TypeInfo}{z:AV}{S X:Operand}{S' X':Opd}
  (ho:o.op=.call c) (hc:c.callee=.builtin .append) (hargs:c.args.toList=[S,X]) (hS:aK S=some S') (hX:aK X=some X') (ht0:c.argTypes[0]?=some t) (ht1:c.argTypes[1]?=some t)
  (hu:P.underlying t=some (.slice el)) (hi:P.info? el=some i) (hz:zeroOf P el=some z) (hsz:0<i.size)
  {K:Cfg} {O:Orc} {v:AV} {h':Heap} (hev:evM K O (.app el i.size i.bytes S' X') e h=some (.val v h')):bX P w G h a o v h':=by
 have hrX:=aF he hX;obtain⟨i',zv,hi',hzv,hzz,hzl⟩:=cw hz;rw[hi]at hi';injection hi' with hi';subst hi'
 have hzr:az w G (dom h) z zv:=by rw[hzz];exact dZ zv
 have hzs:zv.cells.size=i.size:=by rw[(hzr.dg (by omega)).1,hzl]
 simp only[evM]at hev;cases hel:cP (X'.ev e) h with
 |none=>simp[hel]at hev
 |some news=>
  simp only[hel]at hev;split at hev
  ·rename_i hsd;obtain⟨p,kc,flat,hxv,hfl,hpn,hcell⟩:=zA s hrX hel hsz hsd;refine Gs s hn he ho hc hargs hS ht0 ht1 hu hi hz hsz hfl (λh0 q n cap hnc=>?_) (λhnn v n xs hxl hv hb hr=>?_) hev
   ·subst h0;rw[hxv];exact OI (P:=P) (w:=w) (ty:=o.type) hu hi (q:=q) hnc p kc
   ·rw[hxv];cases p with
    |none=>exact absurd (hpn rfl) hnn
    |some ad=>
     exact Et (P:=P) (w:=w) (ty:=o.type) hu hi hzv hzs hsz hxl hv hfl.len (λj u hj=>by
      obtain⟨ad',e1,e2⟩:=hcell j u hj;injection e1 with e1;subst e1
      exact e2) hfl.one (afu.2 hnn) (k:=kc) hb hr
  ·cases hev
theorem OL(q:List UInt8):Flat w G 1 (ofBytes q) (Lib.strCells ⟨q.toArray⟩) where
 len:=by rw[Lib.strCells_length];simp[ofBytes,ByteArray.size]
 one:=Lib.strCells_oneCell _
 sized i hi:=by
  unfold ofBytes at hi ⊢;rw[iO,aeh];rw[ad6]at hi;rw[aea hi];rfl
 rel i j hi hj:=by
  have hj0:j=0:=by omega
  subst hj0;unfold ofBytes at hi ⊢;rw[ad6]at hi;simp only[aeU,aeF,Lib.strCells,iO,aeh];rw[aea hi];exact .int _ _ _
theorem Vq(s:Sim w G h)(hn:h≠[]){e:Env}{a:Act}(he:aC w G (dom h) e a){o:Oper}{c:Call}{t u el:TypeId}{i:TypeInfo}{z:AV}{S X:Operand}{S' X':Opd}
  (ho:o.op=.call c) (hc:c.callee=.builtin .append) (hargs:c.args.toList=[S,X]) (hS:aK S=some S') (hX:aK X=some X') (ht0:c.argTypes[0]?=some t) (ht1:c.argTypes[1]?=some u)
  (hu:P.underlying t=some (.slice el)) (hus:P.underlying u=some .string) (hi:P.info? el=some i) (hz:zeroOf P el=some z) (hsz:i.size=1)
  {K:Cfg} {O:Orc} {v:AV} {h':Heap} (hev:evM K O (.Vr el i.bytes S' X') e h=some (.val v h')):bX P w G h a o v h':=by
 have hrX:=aF he hX;obtain⟨i',zv,hi',hzv,hzz,hzl⟩:=cw hz;rw[hi]at hi';injection hi' with hi';subst hi'
 have hzr:az w G (dom h) z zv:=by rw[hzz];exact dZ zv
 have hzs:zv.cells.size=i.size:=by rw[(hzr.dg (by omega)).1,hzl]
 simp only[evM]at hev;split at hev
 ·rename_i q hq;rw[hq]at hrX;have hxv:=bT hrX;have hl:(ofBytes q).length=(⟨q.toArray⟩:ByteArray).size:=by simp[ofBytes,ByteArray.size]
  have hfl:Flat w G i.size (ofBytes q) (Lib.strCells ⟨q.toArray⟩):=by rw[hsz];exact OL q
  rw[<-hsz]at hev;refine Gs s hn he ho hc hargs hS ht0 ht1 hu hi hz (by omega) hfl (λh0 q' n cap hnc=>?_) (λhnn v n xs hxl hv hb hr=>?_) hev
  ·rw[hxv];exact L9 (P:=P) (w:=w) (ty:=o.type) hu hus hi hsz hnc (by rw[<-hl,h0];rfl)
  ·rw[hxv];rw[hl]at hb hr ⊢;exact OH (P:=P) (w:=w) (ty:=o.type) hu hus hi hzv hzs hsz hxl hv (by rw[<-hl];exact afu.2 hnn) hb hr
 ·cases hev
end Go.Ab
