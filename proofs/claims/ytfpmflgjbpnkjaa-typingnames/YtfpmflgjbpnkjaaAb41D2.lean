/-
  slices.Delete of one element: the call.
-/
import Derived.Test.YtfpmflgjbpnkjaaAb41D1
set_option linter.unusedVariables false
set_option linter.unusedSimpArgs false
namespace Go.Proofs
open Go.RowKit Go.Shelf
theorem Del.info67:(Try.prog.info? 67).map (fun i=>(i.zero,i.size,i.bytes))=some (some (.agg #[.string ⟨#[]⟩,.slice none 0 0]),2,40):=by kernel_rfl
theorem Del.under:Try.prog.underlying 47=some (.slice 67):=by kernel_rfl
set_option maxHeartbeats 4000000 in
set_option maxRecDepth 1000000 in
theorem Del.calls (b cap i m:Nat) (c:Array Value) (w:World) (hb:w.heap[b]?=some (.cells c 67 (0,0))) (hcs:c.size=cap * 2) (hm:m≤cap) (hcap:cap≤9223372036854775807) (hi:i < m) (h1:∀ j,j < m * 2→(c.getD j undef).oneCell'=true) :
  Calls Try.prog 48 #[.slice (some ⟨b,0,none⟩) m cap,.int .i64 i,.int .i64 ((i+1:Nat):Int)] w fun e w'=>e=.returned (.slice (some ⟨b,0,none⟩) (m - 1) cap)∧∃ vs o us,w'=(w.drew.setCells b (i * 2) vs).setCells b o us ∧
   vs.length=(m - (i+1)) * 2∧o=(m - 1) * 2∧us.length=2∧∀ t,t < (m - (i+1)) * 2→vs.getD t undef=c.getD ((i+1) * 2+t) undef:=by
 obtain ⟨i0,hi0,hz0,hz1,hz2⟩:=info_parts Del.info67
 obtain ⟨news,hnews⟩:∃ news,news=(c.toList.drop ((i+1) * 2)).take ((m - (i+1)) * 2):=⟨_,rfl⟩
 have hlen:news.length=(m - (i+1)) * 2:=by rw [hnews];simp;omega
 have hget:∀ t,t < (m - (i+1)) * 2→news[t]?=some (c.getD ((i+1) * 2+t) undef):=fun t ht=>by
  rw [hnews,List.getElem?_take_of_lt ht,List.getElem?_drop,Array.getElem?_toList,Array.getD_eq_getD_getElem?,Array.getElem?_eq_getElem (by omega)]
  rfl
 have hcell:∀ k,k < c.size→w.drew.cell? ⟨b,k,none⟩=some (c.getD k undef):=fun k hk=>Go.Ab.cells_get (w:=w.drew) hb hk
 have hfr:∀ k,w.drew.frozen? ⟨b,k,none⟩=false:=fun k=>by
  have:w.drew.heap[b]?=some (.cells c 67 (0,0)):=hb
  simp [World.frozen?,this]
 obtain ⟨A,hA,hsrc⟩:∃ A:Addr,(if cap=i+1 then some (⟨b,0,none⟩:Addr) else some ⟨b,(i+1) * 2,none⟩)=some A∧Hid (∀ t u,news[t]?=some u→w.drew.cell? (A.add t)=some u):=by
  by_cases h:cap=i+1
  ·refine ⟨⟨b,0,none⟩,by simp [h],fun t u hu=>?_⟩
   have h0:news.length=0:=by rw [hlen];omega
   rw [List.length_eq_zero_iff.1 h0] at hu
   simp at hu
  ·refine ⟨⟨b,(i+1) * 2,none⟩,by simp [h],fun t u hu=>?_⟩
   have ht:t < (m - (i+1)) * 2:=by
    have:=(List.getElem?_eq_some_iff.1 hu).1
    rwa [hlen] at this
   rw [hget t ht] at hu
   rw [Go.Ab.addr_add]
   exact (hcell _ (by omega)).trans hu
 have s1:Hid (news.length=(m - (i+1)) * 2):=hlen
 have s2:Hid (∀ u∈news,u.oneCell'=true):=fun u hu=>by
  obtain ⟨t,ht,rfl⟩:=List.getElem_of_mem hu
  have h2:=hget t (by omega)
  rw [List.getElem?_eq_getElem ht] at h2
  rw [Option.some.inj h2]
  exact h1 _ (by omega)
 have s3:Hid (∀ t,t < news.length→(w.drew.cell? ⟨b,0+i * 2+t,none⟩).isSome=true∧w.drew.frozen? ⟨b,0+i * 2+t,none⟩=false):=fun t ht=>by
  rw [hlen] at ht
  exact ⟨by rw [hcell _ (by omega)];rfl,hfr _⟩
 obtain ⟨W1,hW1⟩:∃ W1,W1=w.drew.setCells b (0+i * 2) news:=⟨_,rfl⟩
 have hc1:∀ k,k < c.size→(W1.cell? ⟨b,k,none⟩).isSome=true:=fun k hk=>by
  obtain ⟨c',e1,e2,_⟩:=Del.row news (0+i * 2) w.drew c hb (by rw [hlen];omega)
  rw [hW1,Go.Ab.cells_get e1 (by omega)]
  rfl
 have hf1:∀ k,W1.frozen? ⟨b,k,none⟩=false:=fun k=>by
  rw [hW1,World.frozen?_setCells]
  exact hfr k
 have hcl:∀ ty,(Builtin.clear_ #[47] ty #[.slice (some ⟨b,(i+(m - (i+1))) * 2,none⟩) (m - (i+(m - (i+1)))) (cap - (i+(m - (i+1))))]).run Try.prog W1=.ok (.tuple #[]) (W1.setCells b ((i+(m - (i+1))) * 2) (Builtin.zeroCells (Value.agg #[.string ⟨#[]⟩,.slice none 0 0]).cells (m - (i+(m - (i+1))))).toList):=
  fun ty=>Del.clear Try.prog W1 47 67 ty (.agg #[.string ⟨#[]⟩,.slice none 0 0]) 2 Del.under (fun w=>by simp [zeroValue,typeInfo,hi0,hz0]) rfl (by simp [Value.cells,Value.oneCell']) b _ _ _ (by omega) (fun j hj=>hc1 _ (by omega)) (fun j _=>hf1 _)
 have hW:Hid (W1=w.drew.setCells b (0+i * 2) news):=hW1
 have X:Hid (news.length=(m - (i+1)) * 2∧∀ t,t < (m - (i+1)) * 2→news[t]?=some (c.getD ((i+1) * 2+t) undef)):=⟨hlen,hget⟩
 have hic:i≤cap:=by omega
 have hjc:i+1≤cap:=by omega
 have hle:(i:Int)+1≤(m:Int):=by omega
 have hle2:(0:Int)≤(i:Int)+1:=by omega
 have mixed:Try.prog.follows Departure.mixedOrders=true:=by kernel_rfl
 clear hW1 hc1 hf1 hget hnews hlen hcell hfr hb h1
 go_enter Try.func48,Try.ntmps48
 go_wp2_with fail
 go_region_law_o (refine step_append_room rfl (.tmp 22) (.tmp 25) 47 rfl 67 i0 2 Del.under hi0 hz1 b 0 i cap (by simp [Act.eval,Act.put]) A (m - (i+1)) (cap - (i+1)) news (by simp [Act.eval,Act.put]) s1.out hsrc.out s2.out (by omega) s3.out ?_;rw [←hW.out])
 go_wp2
 go_ret
 refine ⟨by rw [show m - 1=i+(m - (i+1)) by omega];rfl,news,_,_,by rw [←Nat.zero_add (i * 2),←hW.out],X.out.1,by omega,by rw [Array.length_toList,size_zeroCells];simp [Value.cells];omega,fun t ht=>?_⟩
 rw [List.getD_eq_getElem?_getD,X.out.2 t ht]
 rfl
end Go.Proofs
