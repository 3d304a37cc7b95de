import Derived.Test.YtnelhjfjkkdoaaaGreatDoorJ36
import Derived.Test.YtnelhjfjkkdoaaaGreatDoorJ39
import Derived.Test.YtnelhjfjkkdoaaaGreatDoorJ30
import Derived.Test.YtnelhjfjkkdoaaaGreatDoorJ34
set_option linter.unusedSimpArgs false
set_option linter.unusedVariables false
namespace Go.Proofs.YtnelhjfjkkdoaaaGreatDoor
open Go.RowKit Go.Instr
attribute [local go_sem] ba_get ByteArray.mk_append_mk
attribute [local go_sem ↓] Go.wp_at_zero Go.wp_at_succ
structure LgO (w : World) (B lb : Nat) (g : LgM) (o : Option Nat) : Prop extends LgRd w lb g where
 row : (o = g.al.ownBlock ∧ w.ownsRow B 149 16 g.al g.es.length (lcells g.es)) ∨ (o = none ∧ g.ac = g.es.length)
 lo : B ≤ lb
 off : ∀ e ∈ g.es,e.woff lb ∧ ∀ k,o = some k → e.woff k
 noff : wofA g.nA g.nx.length lb ∧ ∀ k,o = some k → wofA g.nA g.nx.length k
section
variable {w w' : World} {B lb : Nat} {g : LgM} {o : Option Nat}
theorem LgAt.toO (h : LgAt w B lb g) : LgO w B lb g g.al.ownBlock := { h.toLgRd with row:=.inl ⟨rfl,h.own⟩,lo:=h.lo,off:=h.off,noff:=h.noff }
theorem LgO.next (h : LgO w B lb g o) (hb : Below w.heap.size w w') : LgO w' B lb g o :=
 { h.toLgRd.next hb with row:=h.row.imp (fun r=>⟨r.1,own_below r.2 hb⟩) id,lo:=h.lo,off:=h.off,noff:=h.noff }
theorem LgO.lt (h : LgO w B lb g o) (k : Nat) (hk : o = some k) : B ≤ k ∧ k < w.heap.size:=by
 rcases h.row with ⟨e,r⟩ | ⟨e,_⟩
 ·exact r.lt k (e.symm.trans hk)
 ·rw [e] at hk; cases hk
theorem LgO.from (h : LgO w B lb g o) : B ≤ w.heap.size:=by have:=h.blk.lt; have:=h.lo; omega
theorem LgO.ne (h : LgO w B lb g o) : o ≠ some lb:=by
 rcases h.row with ⟨e,r⟩ | ⟨e,_⟩
 ·rw [e]; exact own_blk_ne r h.blk (by decide)
 ·rw [e]; intro h; cases h
theorem LgO.typ (h : LgO w B lb g o) (k : Nat) (hk : o = some k) : ∃ ty cs,Blk w k ty cs ∧ ty ≠ 115 ∧ ty ≠ 136:=by
 rcases h.row with ⟨e0,r⟩ | ⟨e0,_⟩
 ·rw [e0] at hk
  rcases r.2 with ⟨e,_⟩ | ⟨q,cap,cur,e,_,hh,_⟩
  ·rw [e] at hk; cases hk
  ·rw [e] at hk
   have:=Option.some.inj hk
   subst this
   exact ⟨_,_,hh,by decide,by decide⟩
 ·rw [e0] at hk; cases hk
end
theorem run_append_full {P : Program} (w : World) (B : Nat) (t ty e : TypeId) (i : TypeInfo) (z : Value) (size bytes : Nat) (ht : P.underlying t = some (.slice e)) (hi : P.info? e = some i) (hz : i.zero = some z) (hsize : i.size = size) (hby : i.bytes = bytes) (hzs : z.cells.size = size)
  (b : Addr) (n : Nat) (xs : List Value) (hlo : xs.length = n * size) (holds : ∀ j u,xs[j]? = some u → w.cell? (b.add j) = some u) (a : Addr) (m c : Nat) (hm : 0 < m) (news : List Value) (hl : news.length = m * size) (hnews : ∀ j u,news[j]? = some u → w.cell? (a.add j) = some u)
  (h63 : n + m ≤ maxLen) (hbytes : (n + m) * bytes ≤ 140737488355328) (hB : B ≤ w.heap.size) :
  ∃ v' w',(Builtin.append_ #[t,t] ty #[.slice (some b) n n,.slice (some a) m c]).run P w = .ok v' w' ∧ w'.ownsRow B e size v' (n + m) (xs ++ news) ∧ w.grownBy w' none ∧ v'.ownBlock = some w.heap.size:=by
 subst hsize
 subst hby
 have hsmall : n + m ≤ 9223372036854775807:=by simp only [maxLen] at h63; omega
 have hlen : (xs ++ news).length = (n + m) * i.size:=by rw [List.length_append,hlo,hl,Nat.add_mul]
 have hr:=run_append_grow (P:=P) w t ty e i z ht hi hz b n n xs hlo holds a m c news hl hnews (by omega) (by omega) (growslice_fits (by omega) hbytes)
 have hge:=grownCap_ge w (n + m) n e
 have hcm : grownCap w (n + m) n e ≤ maxLen:=grownCap_le_maxLen w (n + m) n e h63
 refine ⟨_,_,hr,⟨hlen,.inr ⟨w.heap.size,_,_,rfl,hB,heap_alloc_new w.drew _,hge,hcm, ?_, ?_⟩⟩,⟨rfl,rfl,rfl,by simp,fun k hk _=>Go.heap_alloc_old w.drew _ hk⟩,rfl⟩
 ·simp only [Array.size_append,List.size_toArray,size_zeroCells,hzs,hlo,hl,← Nat.add_mul]
  congr 1
  omega
 ·simp only [Array.toList_append,List.append_assoc]
  rw [← List.append_assoc,← hlen]
  exact List.take_left
theorem step_append_led (wr : World) (news : List Value) {ops : Array Oper} {op : Oper} {a : Act} {K : Act → World → Prop} {Q : Exit → Act → World → Prop} {E : Prop} (hgd : op.guard = none) (s x : Operand)
  (ho : op.op = .call { callee:=.builtin .append,args:=#[s,x],argTypes:=#[145,145] })
  (g : LgM) (B : Nat) (o : Option Nat) (hs : a.eval s = g.al) (hrow : (o = g.al.ownBlock ∧ wr.ownsRow B 149 16 g.al g.es.length (lcells g.es)) ∨ (o = none ∧ g.ac = g.es.length)) (hr : Reads wr wr.heap.size 16 g.aA g.es.length (lcells g.es))
  (c : Nat) (hx : a.eval x = .slice (some ⟨wr.heap.size,0,none⟩) 1 c) (hl : news.length = 16) (h1 : ∀ u ∈ news,u.oneCell' = true) (hle : g.es.length ≤ 1048578) (hpos : ∃ n,g.es.length = n + 1) (hB : B ≤ wr.heap.size)
  (h : ∀ v' w',w'.ownsRow B 149 16 v' (g.es.length + 1) (lcells g.es ++ news) → wr.grownBy w' o → (v'.ownBlock = o ∨ ∃ g,v'.ownBlock = some g ∧ wr.heap.size ≤ g) → wr.heap.size < w'.heap.size → K (a.put op.dst v') w') :
  if Region.wanted op (yielded ops a.tmps) = true then Oper.wp Tryz.prog op a (wr.alloc (.cells news.toArray 149)) K Q else E:=by
 rcases hrow with ⟨e,own⟩ | ⟨e,hcap⟩
 ·subst e
  exact step_append_row wr 149 news hgd s x 145 ho B 16 248 _ info_len Tryz.underlying145 rfl (by decide) g.al g.es.length (lcells g.es) hs own 1 c hx hl h1 (by simp only [maxLen]; omega) (by omega) B wr (Below.refl _ _) (Nat.le_refl _) hB (fun v' w' h2 _ h4 h5 h6=>h v' w' h2 h4 h5 h6)
 ·subst e
  obtain ⟨i,hi,hz,hsize,hby⟩:=info_parts info_len
  have hn : ∀ j u,news[j]? = some u → (wr.alloc (.cells news.toArray 149)).cell? ((⟨wr.heap.size,0,none⟩ : Addr).add j) = some u:=by
   intro j u hu
   have ha : (⟨wr.heap.size,0,none⟩ : Addr).add j = ⟨wr.heap.size,j,none⟩:=by unfold Addr.add; split <;> simp_all
   rw [ha,World.cell?_alloc_at _ _ _ _ rfl]
   simpa using hu
  obtain ⟨n0,hn0⟩:=hpos
  obtain ⟨ad,hA,_,hc⟩:=(hr.below ((Below.refl _ wr).alloc (Nat.le_refl _) (.cells news.toArray 149))).2 (by omega)
  have hs2 : a.eval s = .slice (some ad) g.es.length g.es.length:=by rw [hs]; unfold LgM.al; rw [hA,hcap]
  obtain ⟨v',w',hrun,h2,h3,h5⟩:=run_append_full (P:=Tryz.prog) (wr.alloc (.cells news.toArray 149)) B 145 op.type 149 i _ 16 248 Tryz.underlying145 hi hz hsize hby (by decide) ad g.es.length (lcells g.es) hr.1 hc ⟨wr.heap.size,0,none⟩ 1 c (by omega) news (by rw [hl]) hn (by simp only [maxLen]; omega) (by omega) (by simp; omega)
  have hw : Region.wanted op (yielded ops a.tmps) = true:=by simp [Region.wanted,hgd]
  rw [if_pos hw]
  unfold Oper.wp execOp
  simp only [ho,resolve,invoke,builtin,Sem.run_bind,Sem.run_pure,Result.andThen_ok,List.map_toArray,List.map_cons,List.map_nil,hs2,hx,hrun]
  have h6:=h3.size
  simp only [World.size_alloc] at h6
  have hg : wr.grownBy w' none:=⟨h3.os,h3.tape,h3.output,by omega,fun k hk hne=>(h3.block k (by simp; omega) hne).trans (Below.heap_alloc _ _ _ hk)⟩
  exact h v' w' h2 hg (.inr ⟨_,h5,by simp⟩) (by omega)
theorem LgO.grow {W w4 : World} {B lb : Nat} {g : LgM} {o : Option Nat} (h : LgO W B lb g o) {x : LeM} (hx : LeOk W x) (hwf : Led.Wf (g.L ++ [x.en])) (hrt : Led.Rts (g.L ++ [x.en])) {nA : Option Addr} {nc : Nat} (hn : Reads W W.heap.size 2 nA x.en.nxt.length (mcells x.en.nxt))
  (hox : x.woff lb ∧ ∀ k,o = some k → x.woff k) (hon : wofA nA x.en.nxt.length lb ∧ ∀ k,o = some k → wofA nA x.en.nxt.length k) {A4 : Option Addr} {c4 : Nat} (own4 : w4.ownsRow B 149 16 (.slice A4 (g.es.length + 1) c4) (g.es.length + 1) (lcells g.es ++ lcell x))
  (hg4 : W.grownBy w4 o) (h5 : (Value.slice A4 (g.es.length + 1) c4).ownBlock = o ∨ ∃ q,(Value.slice A4 (g.es.length + 1) c4).ownBlock = some q ∧ W.heap.size ≤ q) :
  LgAt ((w4.setCell ⟨lb,0,none⟩ (.slice A4 (g.es.length + 1) c4)).setCell ⟨lb,1,none⟩ (.slice nA x.en.nxt.length nc)) B lb ⟨g.es ++ [x],A4,c4,x.en.nxt,nA,nc⟩:=by
 have hne : o ≠ some lb:=h.ne
 have b4 : Blk w4 lb 147 #[.slice g.aA g.es.length g.ac,.slice g.nA g.nx.length g.nc]:=blk_grown h.blk hg4 (fun e=>hne e.symm)
 have hg6 : w4.grownBy ((w4.setCell ⟨lb,0,none⟩ (.slice A4 (g.es.length + 1) c4)).setCell ⟨lb,1,none⟩ (.slice nA x.en.nxt.length nc)) (some lb):=grown_cell (grown_cell (World.grownBy.refl w4 (some lb)) 0 _) 1 _
 have b6 : Blk ((w4.setCell ⟨lb,0,none⟩ (.slice A4 (g.es.length + 1) c4)).setCell ⟨lb,1,none⟩ (.slice nA x.en.nxt.length nc)) lb 147 #[.slice A4 (g.es.length + 1) c4,.slice nA x.en.nxt.length nc]:=by
  have:=heap_setCell_same _ lb 1 _ _ (.slice nA x.en.nxt.length nc) (heap_setCell_same w4 lb 0 _ _ (.slice A4 (g.es.length + 1) c4) b4)
  unfold Blk
  simpa using this
 generalize (w4.setCell ⟨lb,0,none⟩ (.slice A4 (g.es.length + 1) c4)).setCell ⟨lb,1,none⟩ (.slice nA x.en.nxt.length nc) = w6 at *
 have own6:=own_keepB own4 hg6 b4 (by decide)
 have hob : ∀ k,o = some k → ∃ ty cs,Blk W k ty cs ∧ ty ≠ 115 ∧ ty ≠ 136:=by
  exact h.typ
 have hee : ∀ e,LeOk W e → e.woff lb → (∀ k,o = some k → e.woff k) → LeOk w6 e:=fun e he o1 o2 =>
  (he.far hg4 (fun k hk=>⟨o2 k hk,hob k hk⟩)).far hg6 (fun k hk=>by have:=Option.some.inj hk; subst this; exact ⟨o1,_,_,b4,by decide,by decide⟩)
 have hnn : ∀ (A : Option Addr) (l : List Pw.Mem),Reads W W.heap.size 2 A l.length (mcells l) → wofA A l.length lb → (∀ k,o = some k → wofA A l.length k) → Reads w6 w6.heap.size 2 A l.length (mcells l):=fun A l hr o1 o2 =>
  reads_woff (reads_woff hr hg4 o2) hg6 (fun k hk=>by have:=Option.some.inj hk; subst this; exact o1)
 have hlc : lcells g.es ++ lcell x = lcells (g.es ++ [x]):=lcells_snoc _ _
 rw [hlc] at own6
 have hlen : (g.es ++ [x]).length = g.es.length + 1:=by simp
 have hL : LgM.L ⟨g.es ++ [x],A4,c4,x.en.nxt,nA,nc⟩ = g.L ++ [x.en]:=by simp [LgM.L]
 have hnew : ∀ e,LeOk W e → (∀ k,o = some k → e.woff k) → ∀ k,(Value.slice A4 (g.es.length + 1) c4).ownBlock = some k → e.woff k:=fun e he o2 k hk=>by
  rcases h5 with h5 | ⟨q,h5,hq⟩
  ·exact o2 k (h5.symm.trans hk)
  ·rw [h5] at hk
   have:=Option.some.inj hk
   subst this
   exact he.new hq
 rw [← hlen] at own6 b6
 refine { blk:=b6,r:=Reads.of_own own6,ok := ?_,nr:=hnn _ _ hn hon.1 hon.2,wf:=by rw [hL]; exact hwf,rt:=by rw [hL]; exact hrt,nx:=⟨x.en,by rw [hL]; simp,rfl⟩,own:=own6,lo:=h.lo,off := ?_,noff:=⟨hon.1,fun k hk => ?_⟩ }
 ·intro e he
  rcases List.mem_append.1 he with he | he
  ·exact hee e (h.ok e he) (h.off e he).1 (h.off e he).2
  ·rw [List.mem_singleton] at he
   subst he
   exact hee e hx hox.1 hox.2
 ·intro e he
  simp only [LgM.al,hlen]
  rcases List.mem_append.1 he with he | he
  ·exact ⟨(h.off e he).1,hnew e (h.ok e he) (h.off e he).2⟩
  ·rw [List.mem_singleton] at he
   subst he
   exact ⟨hox.1,hnew e hx hox.2⟩
 ·simp only [LgM.al,hlen] at hk
  rcases h5 with h5 | ⟨q,h5,hq⟩
  ·exact hon.2 k (h5.symm.trans hk)
  ·rw [h5] at hk
   have:=Option.some.inj hk
   subst this
   exact wofA.new hn hq
def AddOEnd (w : World) (B lb : Nat) (g : LgM) (o : Option Nat) (q : En) (view : Int) (txs : List Ex.Tx) (e : Ending) (w' : World) : Prop :=
 ∃ (hd : Hd) (kA : Option Addr) (kc : Nat) (g' : LgM),e = .returned (.tuple #[.agg #[.int .i64 hd.hgt,.int .i64 hd.epo,.int .i64 hd.vw,.bool hd.last,.string ⟨hd.par.toArray⟩,.string ⟨hd.st.toArray⟩,.string ⟨hd.rc.toArray⟩,.string ⟨hd.tx.toArray⟩,.string ⟨hd.mem.toArray⟩,.string ⟨hd.nxt.toArray⟩,.slice kA hd.sk.length kc],.int .i64 (Led.makeC q view txs : Int)]) ∧ Frm w w' lb o ∧ Reads w' w'.heap.size 1 kA hd.sk.length (strv hd.sk) ∧ (∀ a,kA = some a → w.heap.size ≤ a.block) ∧
  (Led.makeC q view txs = 0 → LgAt w' B lb g' ∧ g'.L = g.L ++ [Led.makeE g.L q view txs] ∧ hd = (Led.makeE g.L q view txs).hd) ∧ (Led.makeC q view txs ≠ 0 → LgO w' B lb g o ∧ g' = g ∧ hd = zeroHd)
set_option maxRecDepth 100000 in
set_option maxHeartbeats 4000000 in
theorem led_AddO (w : World) (B lb : Nat) (g : LgM) (o : Option Nat) (h : LgO w B lb g o) (hT : Tbl w) (hfew : ∀ e ∈ g.L,Trie.count e.st ≤ 900) (n : Nat) (hn : g.es.length = n + 1) (p : LeM) (hp : g.es[n]'(by omega) = p) (view : Int) (tl : List TxM) (xA : Option Addr) (xc : Nat) (HT : TxsAt w xA tl) :
  Calls Tryz.prog 41 #[.pointer (some ⟨lb,0,none⟩),.int .i64 view,.slice xA tl.length xc] w (AddOEnd w B lb g o p.en view (tl.map (·.1))):=by
 have HPe : Hid (∀ (cd : Nat) w',Led.makeC p.en view (tl.map (·.1)) = cd → cd ≠ 0 → Below w.heap.size w w' → AddOEnd w B lb g o p.en view (tl.map (·.1)) (.returned (.tuple #[.agg #[.int .i64 0,.int .i64 0,.int .i64 0,.bool false,.string ⟨#[]⟩,.string ⟨#[]⟩,.string ⟨#[]⟩,.string ⟨#[]⟩,.string ⟨#[]⟩,.string ⟨#[]⟩,.slice none 0 0],.int .i64 (cd : Int)])) w'):=Lib.hid (fun cd w' e h1 hb=>⟨zeroHd,none,0,g,by rw [e]; rfl,Frm.of_below hb _ _,Reads.none_,(fun a ha=>by cases ha),fun h=>absurd (e.symm.trans h) h1,fun _=>⟨h.next hb,rfl,rfl⟩⟩)
 have HPo : Hid (∀ (hd : Hd) kA kc (g' : LgM) w',Led.makeC p.en view (tl.map (·.1)) = 0 → LgAt w' B lb g' → Frm w w' lb o → Reads w' w'.heap.size 1 kA hd.sk.length (strv hd.sk) → (∀ a,kA = some a → w.heap.size ≤ a.block) → g'.L = g.L ++ [Led.makeE g.L p.en view (tl.map (·.1))] → hd = (Led.makeE g.L p.en view (tl.map (·.1))).hd → AddOEnd w B lb g o p.en view (tl.map (·.1)) (.returned (.tuple #[.agg #[.int .i64 hd.hgt,.int .i64 hd.epo,.int .i64 hd.vw,.bool hd.last,.string ⟨hd.par.toArray⟩,.string ⟨hd.st.toArray⟩,.string ⟨hd.rc.toArray⟩,.string ⟨hd.tx.toArray⟩,.string ⟨hd.mem.toArray⟩,.string ⟨hd.nxt.toArray⟩,.slice kA hd.sk.length kc],.int .i64 0])) w'):=Lib.hid (fun hd kA kc g' w' e h1 h2 h3 hq h4 h5=>⟨hd,kA,kc,g',by rw [e]; rfl,h2,h3,hq,fun _=>⟨h1,h4,h5⟩,fun h=>absurd e h⟩)
 have HGr:=Lib.hid (fun W (hW : Below w.heap.size w W)=>led_grown W lb g (h.next hW).toLgRd (hT.next hW) hfew n hn p hp view tl xA xc (HT.next hW))
 have hpm : g.L[n]'(by rw [List.length_map]; omega) = p.en:=by rw [List.getElem_map,hp]
 have hl : g.L.length = n + 1:=by rw [List.length_map,hn]
 have HW2 : Hid (Led.makeC p.en view (tl.map (·.1)) = 0 → Led.Wf (g.L ++ [Led.makeE g.L p.en view (tl.map (·.1))]) ∧ Led.Rts (g.L ++ [Led.makeE g.L p.en view (tl.map (·.1))])):=Lib.hid (fun hc=>by
  have e:=Led.add_ok hl (p:=p.en) (by rw [List.getElem?_eq_getElem (by omega),hpm]) hc
  have a:=Led.addW_wf h.wf view (tl.map (·.1))
  have b:=Led.addW_rts h.wf h.rt view (tl.map (·.1))
  rw [e] at a b
  exact ⟨a,b⟩)
 unfold GrownEnd at HGr
 generalize AddOEnd w B lb g o p.en view (tl.map (·.1)) = P at HPe HPo ⊢
 generalize hME : Led.makeE g.L p.en view (tl.map (·.1)) = ME at *
 generalize hCC : Led.makeC p.en view (tl.map (·.1)) = cd at *
 have HH:=Lib.hid h
 have hle : g.es.length ≤ 1048577:=by have:=h.wf.le; rw [List.length_map] at this; exact this
 have HLe:=Lib.hid hle
 have SZE : Hid ((Tryz.prog.info? 149).map (·.size) = some 16):=Lib.hid (by kernel_rfl)
 have SZH : Hid ((Tryz.prog.info? 65).map (·.size) = some 11):=Lib.hid (by kernel_rfl)
 clear hME hCC hpm hl hle hfew hT HT hn hp h
 go_enter Tryz.func41,Tryz.ntmps41
 go_upto_region 1 with fail
 have F0:=Live.ha (Lib.hid (Live.start w)) #[.int .i64 0,.int .i64 0,.int .i64 0,.bool false,.string ⟨#[]⟩,.string ⟨#[]⟩,.string ⟨#[]⟩,.string ⟨#[]⟩,.string ⟨#[]⟩,.string ⟨#[]⟩,.slice none 0 0] 65
 generalize w.alloc (.cells #[.int .i64 0,.int .i64 0,.int .i64 0,.bool false,.string ⟨#[]⟩,.string ⟨#[]⟩,.string ⟨#[]⟩,.string ⟨#[]⟩,.string ⟨#[]⟩,.string ⟨#[]⟩,.slice none 0 0] 65) = W0 at F0 ⊢
 generalize hrb : w.heap.size = rb at F0 ⊢
 have HRB:=Lib.hid hrb
 clear hrb
 go_wp2_with fail
 refine (HGr.out _ F0.out.b).mono ?_
 rintro e w1 ⟨x,nA,nc,rfl,hb,hok,hno⟩
 have hlt0:=F0.out.lt 0 rfl
 have F1:=Live.hb F0 hb
 have HOk:=Lib.hid hok
 have HNo:=Lib.hid hno
 have HB1:=Lib.hid hb
 have HB0 : Hid (w.heap.size ≤ W0.heap.size):=Lib.hid F0.out.b.size
 have HB0r : Hid (rb < W0.heap.size):=Lib.hid (F0.out.lt 0 rfl)
 have HL0 : Hid (lb < W0.heap.size):=Lib.hid (by have h5:=HH.out.blk.lt; have h6:=F0.out.b.size; have h7:=HRB.out; omega)
 clear hb hok hno HGr hlt0
 obtain ⟨pl,hpl⟩ : ∃ z,lcell x = z:=⟨_,rfl⟩
 have HPE:=Lib.hid hpl
 have HL16 : Hid (pl.length = 16):=Lib.hid (by rw [← hpl]; rfl)
 rw [hpl]
 clear hpl
 have F2:=Live.ha F1 #[.int .i64 0,.int .i64 0,.int .i64 0,.bool false,.string ⟨#[]⟩,.string ⟨#[]⟩,.string ⟨#[]⟩,.string ⟨#[]⟩,.string ⟨#[]⟩,.string ⟨#[]⟩,.slice none 0 0,.string ⟨#[]⟩,.slice none 0 0,.slice none 0 0,.pointer none,.slice none 0 0] 149
 have TH : (w1.alloc (.cells #[.int .i64 0,.int .i64 0,.int .i64 0,.bool false,.string ⟨#[]⟩,.string ⟨#[]⟩,.string ⟨#[]⟩,.string ⟨#[]⟩,.string ⟨#[]⟩,.string ⟨#[]⟩,.slice none 0 0,.string ⟨#[]⟩,.slice none 0 0,.slice none 0 0,.pointer none,.slice none 0 0] 149)).there w1.heap.size 0 pl.toArray.size:=by have:=F2.out.there 0 16 rfl (by decide); simpa [HL16.out] using this
 have SZP : (Tryz.prog.info? 149).map (·.size) = some pl.toArray.size:=by simpa [HL16.out] using SZE.out
 have SZM : (Tryz.prog.info? 149).map (·.size) = some pl.length:=by rw [HL16.out]; exact SZE.out
 have ONP : Hid (pl.toArray.all (·.oneCell') = true):=Lib.hid (all_oneCell_toArray (by
  rw [← HPE.out]
  by_cases hc : cd = 0
  ·exact lcell_one x (HOk.out hc).2.1.t.one
  ·rw [HNo.out hc]; exact lcell_one zeroLe rfl))
 have ONQ:=ONP.out
 have F3:=Live.hall F2 0 pl rfl (by simpa using HL16.out.symm)
 obtain ⟨W3,h3⟩ : ∃ W,(w1.alloc (.cells #[.int .i64 0,.int .i64 0,.int .i64 0,.bool false,.string ⟨#[]⟩,.string ⟨#[]⟩,.string ⟨#[]⟩,.string ⟨#[]⟩,.string ⟨#[]⟩,.string ⟨#[]⟩,.slice none 0 0,.string ⟨#[]⟩,.slice none 0 0,.slice none 0 0,.pointer none,.slice none 0 0] 149)).setCells w1.heap.size 0 pl = W:=⟨_,rfl⟩
 rw [h3] at F3
 have H3:=Lib.hid h3
 have HB3 : Hid (Below W0.heap.size W0 W3):=Lib.hid (by
  have h5:=(Live.hall (Live.ha (Lib.hid (Live.start w1)) #[.int .i64 0,.int .i64 0,.int .i64 0,.bool false,.string ⟨#[]⟩,.string ⟨#[]⟩,.string ⟨#[]⟩,.string ⟨#[]⟩,.string ⟨#[]⟩,.string ⟨#[]⟩,.slice none 0 0,.string ⟨#[]⟩,.slice none 0 0,.slice none 0 0,.pointer none,.slice none 0 0] 149) 0 pl rfl (by simpa using HL16.out.symm)).out.b
  rw [h3] at h5
  exact HB1.out.nxt h5)
 have HB31 : Hid (Below w1.heap.size w1 W3):=Lib.hid (by
  have h5:=(Live.hall (Live.ha (Lib.hid (Live.start w1)) #[.int .i64 0,.int .i64 0,.int .i64 0,.bool false,.string ⟨#[]⟩,.string ⟨#[]⟩,.string ⟨#[]⟩,.string ⟨#[]⟩,.string ⟨#[]⟩,.string ⟨#[]⟩,.slice none 0 0,.string ⟨#[]⟩,.slice none 0 0,.slice none 0 0,.pointer none,.slice none 0 0] 149) 0 pl rfl (by simpa using HL16.out.symm)).out.b
  rw [h3] at h5
  exact h5)
 clear h3 F2 F1
 have hsz:=HL16.out
 go_upto_region 2 with ((with_reducible refine at_store 16 ?_); refine wpList_store_as rfl 149 _ _ rfl w1.heap.size 0 pl.toArray rfl rfl TH SZP ONQ W3 H3.out ?_)
 generalize hxb : w1.heap.size = xb at F3 ⊢
 have HXB:=Lib.hid hxb
 clear hxb TH ONQ SZP ONP
 by_cases hc : cd = 0
 rotate_left
 ·have hc1 : ((cd : Int) != 0) = true:=by simp; exact hc
  have HCn:=Lib.hid hc
  clear hc
  have TH : W3.there rb 0 11:=F3.out.there 1 11 rfl (by decide)
  have F9:=Live.hall F3 1 [.int .i64 0,.int .i64 0,.int .i64 0,.bool false,.string ⟨#[]⟩,.string ⟨#[]⟩,.string ⟨#[]⟩,.string ⟨#[]⟩,.string ⟨#[]⟩,.string ⟨#[]⟩,.slice none 0 0] rfl rfl
  have HG9 : W3.grownBy (W3.setCells rb 0 [.int .i64 0,.int .i64 0,.int .i64 0,.bool false,.string ⟨#[]⟩,.string ⟨#[]⟩,.string ⟨#[]⟩,.string ⟨#[]⟩,.string ⟨#[]⟩,.string ⟨#[]⟩,.slice none 0 0]) (some rb):=grown_setAll _ 0 _ (World.grownBy.refl _ _)
  have hr:=run_loadVar_mid (P:=Tryz.prog) (W3.setCells rb 0 [.int .i64 0,.int .i64 0,.int .i64 0,.bool false,.string ⟨#[]⟩,.string ⟨#[]⟩,.string ⟨#[]⟩,.string ⟨#[]⟩,.string ⟨#[]⟩,.string ⟨#[]⟩,.slice none 0 0]) rb 0 65 [.int .i64 0,.int .i64 0,.int .i64 0,.bool false,.string ⟨#[]⟩,.string ⟨#[]⟩,.string ⟨#[]⟩,.string ⟨#[]⟩,.string ⟨#[]⟩,.string ⟨#[]⟩,.slice none 0 0] _ (range_of_blk (F9.out.blk 1 rfl)) Tryz.underlying65 rfl SZH.out
  obtain ⟨W9,h9⟩ : ∃ W9,W3.setCells rb 0 (#[.int .i64 0,.int .i64 0,.int .i64 0,.bool false,.string ⟨#[]⟩,.string ⟨#[]⟩,.string ⟨#[]⟩,.string ⟨#[]⟩,.string ⟨#[]⟩,.string ⟨#[]⟩,.slice none 0 0] : Array Value).toList = W9:=⟨_,rfl⟩
  have h9b : W3.setCells rb 0 [.int .i64 0,.int .i64 0,.int .i64 0,.bool false,.string ⟨#[]⟩,.string ⟨#[]⟩,.string ⟨#[]⟩,.string ⟨#[]⟩,.string ⟨#[]⟩,.string ⟨#[]⟩,.slice none 0 0] = W9:=h9
  rw [h9b] at F9 hr HG9
  have H9:=Lib.hid h9
  have HG9:=Lib.hid HG9
  clear h9b h9
  go_wp2_with (((with_reducible refine at_store 21 ?_); refine wpList_store_as rfl 65 _ _ rfl rb 0 #[.int .i64 0,.int .i64 0,.int .i64 0,.bool false,.string ⟨#[]⟩,.string ⟨#[]⟩,.string ⟨#[]⟩,.string ⟨#[]⟩,.string ⟨#[]⟩,.string ⟨#[]⟩,.slice none 0 0] rfl rfl TH SZH.out (by simp [Value.oneCell']) W9 H9.out ?_))
  (try simp only [Exit.inBlock,Exit.then])
  refine bodyPost_ret (v:=.tuple #[.agg #[.int .i64 0,.int .i64 0,.int .i64 0,.bool false,.string ⟨#[]⟩,.string ⟨#[]⟩,.string ⟨#[]⟩,.string ⟨#[]⟩,.string ⟨#[]⟩,.string ⟨#[]⟩,.slice none 0 0],.int .i64 (cd : Int)]) (results_cell2 Tryz.results41 rfl hr rfl) rfl ?_
  exact HPe.out cd _ rfl HCn.out F9.out.b
 subst hc
 obtain ⟨hen,hxo,hrn,hfr⟩:=HOk.out rfl
 obtain ⟨hw2,hr2⟩:=HW2.out rfl
 rw [← hen] at hw2 hr2
 have HEn:=Lib.hid hen
 have HXo:=Lib.hid (hxo.next HB31.out)
 have HRn:=Lib.hid ((hrn.below HB31.out).more HB31.out.size)
 have HFr:=Lib.hid hfr
 have HW3:=Lib.hid (And.intro hw2 hr2)
 have HG3:=Lib.hid (HH.out.next F3.out.b)
 clear hen hxo hrn hfr hw2 hr2 HOk HNo HW2
 go_upto_region 4 with fail
 have RG : W3.rangeAt xb 0 pl:=range_of_blk (F3.out.blk 0 rfl)
 have HNE : Hid (xb ≠ lb):=Lib.hid (by have h5:=HL0.out; have h6:=HB1.out.size; have h7:=HXB.out; omega)
 have HFo : ∀ b,b < W0.heap.size → wofA g.nA g.nx.length b → x.woff b ∧ wofA nA x.en.nxt.length b:=HFr.out
 have HOX : Hid (x.woff lb ∧ ∀ k,o = some k → x.woff k):=Lib.hid ⟨(HFo lb HL0.out HH.out.noff.1).1,fun k hk=>(HFo k (by have h5:=(HH.out.lt k hk).2; have h6:=F3.out.b.size; have h7:=HB0.out; omega) (HH.out.noff.2 k hk)).1⟩
 have HON : Hid (wofA nA x.en.nxt.length lb ∧ ∀ k,o = some k → wofA nA x.en.nxt.length k):=Lib.hid ⟨(HFo lb HL0.out HH.out.noff.1).2,fun k hk=>(HFo k (by have h5:=(HH.out.lt k hk).2; have h7:=HB0.out; omega) (HH.out.noff.2 k hk)).2⟩
 have HXO2 : Hid (o ≠ some xb):=Lib.hid (fun e=>by have h5:=(HH.out.lt _ e).2; have h7:=HB0.out; have h6:=HB1.out.size; have h8:=HXB.out; omega)
 clear HFo
 go_cut [] (fun wx => ∃ (A4 : Option Addr) (c4 : Nat),LgAt wx B lb ⟨g.es ++ [x],A4,c4,x.en.nxt,nA,nc⟩ ∧ (Value.slice A4 (g.es.length + 1) c4).ownBlock ≠ some rb ∧ Frm W3 wx lb o ∧ wx.rangeAt xb 0 pl)
 case first =>
  refine wp_region_noPanic ?_
  refine wp_region_held_drew (S:=fun w'=>w'.rangeAt xb 0 pl) (by kernel_rfl) RG (fun hHeld => ?_)
  clear RG
  have F:=live_drew F3
  have G:=Lib.hid (HG3.out.next (w':=W3.drew) ⟨rfl,rfl,rfl,Nat.le_refl _,fun _ _=>rfl⟩)
  have XO:=Lib.hid (HXo.out.next (w':=W3.drew) ⟨rfl,rfl,rfl,Nat.le_refl _,fun _ _=>rfl⟩)
  have RN : Hid (Reads W3.drew W3.drew.heap.size 2 nA x.en.nxt.length (mcells x.en.nxt)):=Lib.hid ((HRn.out.below (w':=W3.drew) ⟨rfl,rfl,rfl,Nat.le_refl _,fun _ _=>rfl⟩).more (Nat.le_refl _))
  have FM : Hid (Frm W3 W3.drew lb o):=Lib.hid ⟨rfl,rfl,rfl,Nat.le_refl _,fun _ _ _ _=>rfl⟩
  generalize W3.drew = Wd at F G XO RN FM hHeld ⊢
  refine tk 0 23 rfl ?_
  try go_frame
  refine tk 1 24 rfl ?_
  try go_frame
  refine tk 2 25 rfl ?_
  try go_frame
  refine tk 3 26 rfl ?_
  try go_frame
  refine tk 4 27 rfl ?_
  try go_frame
  refine' wpAnyH_take (i:=6) (oi:=⟨some 29,_,_,_,_,_⟩) (v:=_) rfl (by kernel_rfl) (by kernel_rfl) (by kernel_rfl) (fun _ _ _ h=>h) (yieldsIf_load_mid (by rfl) _ _ rfl xb 0 rfl pl _ (fun w h=>h) Tryz.underlying149 rfl SZM) (by assumption) ?_
  try go_frame
  refine tk 9 32 rfl ?_
  try go_frame
  refine rd2 5 7 rfl rfl (fun K hK => ?_) (fun K hK => ?_)
  ·skip
   have kl:=G.out.blk.cell 0
   simp only [List.getElem?_toArray,List.getElem?_cons_zero] at kl
   go_simp
   refine hK.out _ _ (range_of_blk (F.out.blk 0 rfl)) (fun hHeld => ?_)
   clear hK K kl
   try go_frame
   refine rd1 7 rfl (fun K hK => ?_)
   go_simp
   generalize hF : List.foldl _ _ pl.zipIdx = cs
   have hF2 : cs = pl.toArray:=hF.symm.trans (foldl_set pl [.int .i64 0,.int .i64 0,.int .i64 0,.bool false,.string ⟨#[]⟩,.string ⟨#[]⟩,.string ⟨#[]⟩,.string ⟨#[]⟩,.string ⟨#[]⟩,.string ⟨#[]⟩,.slice none 0 0,.string ⟨#[]⟩,.slice none 0 0,.slice none 0 0,.pointer none,.slice none 0 0] [] (by rw [HL16.out]; rfl))
   subst hF2
   refine hK.out _ _ (World.rangeAt_alloc (range_of_blk (F.out.blk 0 rfl)) _) (fun hHeld => ?_)
   clear hK K hF
   try go_frame
   refine rd1 8 rfl (fun K hK => ?_)
   have hle:=HLe.out
   refine step_append_led Wd pl rfl _ _ rfl g B o rfl G.out.row G.out.r 1 rfl HL16.out (fun u hu=>by rw [← HPE.out] at hu; exact lcell_one x XO.out.t.one u hu) (by omega) G.out.toLgRd.pos G.out.from ?_
   intro v4 w4 own4 hg4 h5 h6
   obtain ⟨A4,c4,rfl,_,_,_⟩:=own_form own4
   have GR:=G.out.grow (nc:=nc) XO.out HW3.out.1 HW3.out.2 RN.out HOX.out HON.out (by rw [HPE.out]; exact own4) hg4 h5
   have b4 : Blk w4 lb 147 #[.slice g.aA g.es.length g.ac,.slice g.nA g.nx.length g.nc]:=blk_grown G.out.blk hg4 (fun e=>G.out.ne e.symm)
   have b4x : Blk w4 xb 149 pl.toArray:=blk_grown (F.out.blk 0 rfl) hg4 (fun e=>HXO2.out e.symm)
   have r5 : (w4.setCell ⟨lb,0,none⟩ (.slice A4 (g.es.length + 1) c4)).rangeAt xb 0 pl:=World.rangeAt_setCells_apart (range_of_blk b4x) lb 0 [_] (.inl HNE.out)
   have r6 : ((w4.setCell ⟨lb,0,none⟩ (.slice A4 (g.es.length + 1) c4)).setCell ⟨lb,1,none⟩ (.slice nA x.en.nxt.length nc)).rangeAt xb 0 pl:=World.rangeAt_setCells_apart r5 lb 1 [_] (.inl HNE.out)
   have FM6 : Frm W3 ((w4.setCell ⟨lb,0,none⟩ (.slice A4 (g.es.length + 1) c4)).setCell ⟨lb,1,none⟩ (.slice nA x.en.nxt.length nc)) lb o:=(FM.out.trans (Frm.own hg4 lb)).trans (Frm.lb (grown_cell (grown_cell (World.grownBy.refl w4 (some lb)) 0 _) 1 _) _)
   have HOW : Hid ((Value.slice A4 (g.es.length + 1) c4).ownBlock ≠ some rb):=Lib.hid (fun e=>by
    have h8:=F.out.lt 1 rfl
    have h9 : rb < Wd.heap.size:=h8
    rcases h5 with h5 | ⟨q,h5,hq⟩
    ·have h7:=(HH.out.lt rb (h5.symm.trans e)).2
     have h6:=HRB.out
     omega
    ·have h7:=Option.some.inj (h5.symm.trans e)
     omega)
   have GR:=Lib.hid GR
   have FM6:=Lib.hid FM6
   have R6:=Lib.hid (And.intro r5 r6)
   refine hK.out _ _ (range_of_blk b4x) (fun hHeld => ?_)
   clear hK K r5 r6
   try go_frame
   have kc0 : w4.cell? ⟨lb,0,none⟩ = some (.slice g.aA g.es.length g.ac):=b4.cell 0
   have kc1 : w4.cell? ⟨lb,1,none⟩ = some (.slice g.nA g.nx.length g.nc):=b4.cell 1
   have fz0 : w4.frozen? ⟨lb,0,none⟩ = false:=b4.frozen 0
   have fz1 : w4.frozen? ⟨lb,1,none⟩ = false:=b4.frozen 1
   clear own4 hg4 h5 h6 b4 b4x
   refine tk 10 33 rfl ?_
   try go_frame
   refine tk 11 34 rfl ?_
   try go_frame
   refine rd1 12 rfl (fun K hK => ?_)
   go_simp
   refine hK.out _ _ R6.out.1 (fun hHeld => ?_)
   clear hK K
   try go_frame
   refine tk 13 35 rfl ?_
   try go_frame
   refine tk 14 36 rfl ?_
   try go_frame
   refine rd1 15 rfl (fun K hK => ?_)
   go_simp
   refine hK.out _ _ R6.out.2 (fun hHeld => ?_)
   clear hK K
   try go_frame
   refine wpAnyH_done (by kernel_rfl) ?_ _
   refine NoPanic.normal ?_
   go_wp2_with fail
   go_meet
   exact ⟨_,_,GR.out,HOW.out,FM6.out,R6.out.2⟩
  ·skip
   go_simp
   generalize hF : List.foldl _ _ pl.zipIdx = cs
   have hF2 : cs = pl.toArray:=hF.symm.trans (foldl_set pl [.int .i64 0,.int .i64 0,.int .i64 0,.bool false,.string ⟨#[]⟩,.string ⟨#[]⟩,.string ⟨#[]⟩,.string ⟨#[]⟩,.string ⟨#[]⟩,.string ⟨#[]⟩,.slice none 0 0,.string ⟨#[]⟩,.slice none 0 0,.slice none 0 0,.pointer none,.slice none 0 0] [] (by rw [HL16.out]; rfl))
   subst hF2
   refine hK.out _ _ (World.rangeAt_alloc (range_of_blk (F.out.blk 0 rfl)) _) (fun hHeld => ?_)
   clear hK K hF
   try go_frame
   refine rd1 5 rfl (fun K hK => ?_)
   have Ga:=G.out.next ((Below.refl _ Wd).alloc (Nat.le_refl _) (.cells pl.toArray 149))
   have kl:=Ga.blk.cell 0
   simp only [List.getElem?_toArray,List.getElem?_cons_zero] at kl
   go_simp
   refine hK.out _ _ (World.rangeAt_alloc (range_of_blk (F.out.blk 0 rfl)) _) (fun hHeld => ?_)
   clear hK K kl Ga
   try go_frame
   refine rd1 8 rfl (fun K hK => ?_)
   have hle:=HLe.out
   refine step_append_led Wd pl rfl _ _ rfl g B o rfl G.out.row G.out.r 1 rfl HL16.out (fun u hu=>by rw [← HPE.out] at hu; exact lcell_one x XO.out.t.one u hu) (by omega) G.out.toLgRd.pos G.out.from ?_
   intro v4 w4 own4 hg4 h5 h6
   obtain ⟨A4,c4,rfl,_,_,_⟩:=own_form own4
   have GR:=G.out.grow (nc:=nc) XO.out HW3.out.1 HW3.out.2 RN.out HOX.out HON.out (by rw [HPE.out]; exact own4) hg4 h5
   have b4 : Blk w4 lb 147 #[.slice g.aA g.es.length g.ac,.slice g.nA g.nx.length g.nc]:=blk_grown G.out.blk hg4 (fun e=>G.out.ne e.symm)
   have b4x : Blk w4 xb 149 pl.toArray:=blk_grown (F.out.blk 0 rfl) hg4 (fun e=>HXO2.out e.symm)
   have r5 : (w4.setCell ⟨lb,0,none⟩ (.slice A4 (g.es.length + 1) c4)).rangeAt xb 0 pl:=World.rangeAt_setCells_apart (range_of_blk b4x) lb 0 [_] (.inl HNE.out)
   have r6 : ((w4.setCell ⟨lb,0,none⟩ (.slice A4 (g.es.length + 1) c4)).setCell ⟨lb,1,none⟩ (.slice nA x.en.nxt.length nc)).rangeAt xb 0 pl:=World.rangeAt_setCells_apart r5 lb 1 [_] (.inl HNE.out)
   have FM6 : Frm W3 ((w4.setCell ⟨lb,0,none⟩ (.slice A4 (g.es.length + 1) c4)).setCell ⟨lb,1,none⟩ (.slice nA x.en.nxt.length nc)) lb o:=(FM.out.trans (Frm.own hg4 lb)).trans (Frm.lb (grown_cell (grown_cell (World.grownBy.refl w4 (some lb)) 0 _) 1 _) _)
   have HOW : Hid ((Value.slice A4 (g.es.length + 1) c4).ownBlock ≠ some rb):=Lib.hid (fun e=>by
    have h8:=F.out.lt 1 rfl
    have h9 : rb < Wd.heap.size:=h8
    rcases h5 with h5 | ⟨q,h5,hq⟩
    ·have h7:=(HH.out.lt rb (h5.symm.trans e)).2
     have h6:=HRB.out
     omega
    ·have h7:=Option.some.inj (h5.symm.trans e)
     omega)
   have GR:=Lib.hid GR
   have FM6:=Lib.hid FM6
   have R6:=Lib.hid (And.intro r5 r6)
   refine hK.out _ _ (range_of_blk b4x) (fun hHeld => ?_)
   clear hK K r5 r6
   try go_frame
   have kc0 : w4.cell? ⟨lb,0,none⟩ = some (.slice g.aA g.es.length g.ac):=b4.cell 0
   have kc1 : w4.cell? ⟨lb,1,none⟩ = some (.slice g.nA g.nx.length g.nc):=b4.cell 1
   have fz0 : w4.frozen? ⟨lb,0,none⟩ = false:=b4.frozen 0
   have fz1 : w4.frozen? ⟨lb,1,none⟩ = false:=b4.frozen 1
   clear own4 hg4 h5 h6 b4 b4x
   refine tk 10 33 rfl ?_
   try go_frame
   refine tk 11 34 rfl ?_
   try go_frame
   refine rd1 12 rfl (fun K hK => ?_)
   go_simp
   refine hK.out _ _ R6.out.1 (fun hHeld => ?_)
   clear hK K
   try go_frame
   refine tk 13 35 rfl ?_
   try go_frame
   refine tk 14 36 rfl ?_
   try go_frame
   refine rd1 15 rfl (fun K hK => ?_)
   go_simp
   refine hK.out _ _ R6.out.2 (fun hHeld => ?_)
   clear hK K
   try go_frame
   refine wpAnyH_done (by kernel_rfl) ?_ _
   refine NoPanic.normal ?_
   go_wp2_with fail
   go_meet
   exact ⟨_,_,GR.out,HOW.out,FM6.out,R6.out.2⟩
 case rest =>
 obtain ⟨A4,c4,hg',how,hfm,hrg⟩:=hcut
 have hR3 : rb < W3.heap.size:=F3.out.lt 1 rfl
 have hRL : rb ≠ lb:=by have h5:=HH.out.blk.lt; have h6:=HRB.out; omega
 have hRO : some rb ≠ o:=fun e=>by have h5:=(HH.out.lt rb e.symm).2; have h6:=HRB.out; omega
 have b0 : Blk wc rb 65 #[.int .i64 0,.int .i64 0,.int .i64 0,.bool false,.string ⟨#[]⟩,.string ⟨#[]⟩,.string ⟨#[]⟩,.string ⟨#[]⟩,.string ⟨#[]⟩,.string ⟨#[]⟩,.slice none 0 0]:=by
  unfold Blk
  rw [hfm.block rb hR3 hRL hRO]
  exact F3.out.blk 1 rfl
 have hxk:=hg'.ok x (by simp)
 have hsk : x.en.hd.sk.length ≤ 100000:=by
  have h5:=(HW3.out.1.one g.L.length (by simp)).ok.sk_le
  rw [List.getElem_append_right (Nat.le_refl _)] at h5
  simp only [Nat.sub_self,List.getElem_cons_zero] at h5
  omega
 have HSh:=Lib.hid (lg_shown wc x.en.hd x.kA x.kc hxk.k hsk)
 have RG : wc.rangeAt xb 0 [.int .i64 x.en.hd.hgt,.int .i64 x.en.hd.epo,.int .i64 x.en.hd.vw,.bool x.en.hd.last,.string ⟨x.en.hd.par.toArray⟩,.string ⟨x.en.hd.st.toArray⟩,.string ⟨x.en.hd.rc.toArray⟩,.string ⟨x.en.hd.tx.toArray⟩,.string ⟨x.en.hd.mem.toArray⟩,.string ⟨x.en.hd.nxt.toArray⟩,.slice x.kA x.en.hd.sk.length x.kc]:=fun j v hv=>hrg j v (by
  rw [← HPE.out]
  have hl : lcell x = [.int .i64 x.en.hd.hgt,.int .i64 x.en.hd.epo,.int .i64 x.en.hd.vw,.bool x.en.hd.last,.string ⟨x.en.hd.par.toArray⟩,.string ⟨x.en.hd.st.toArray⟩,.string ⟨x.en.hd.rc.toArray⟩,.string ⟨x.en.hd.tx.toArray⟩,.string ⟨x.en.hd.mem.toArray⟩,.string ⟨x.en.hd.nxt.toArray⟩,.slice x.kA x.en.hd.sk.length x.kc] ++ (lcell x).drop 11:=rfl
  rw [hl,List.getElem?_append_left (List.getElem?_eq_some_iff.1 hv).1]
  exact hv)
 have hwo : ∀ e ∈ g.es ++ [x],e.woff rb:=fun e he=>by
  rcases List.mem_append.1 he with he | he
  ·exact (HH.out.ok e he).new (Nat.le_of_eq HRB.out)
  ·rw [List.mem_singleton] at he
   subst he
   exact (HFr.out rb (by have h5:=HB0r.out; omega) (wofA.new HH.out.nr (Nat.le_of_eq HRB.out))).1
 have hno : wofA nA x.en.nxt.length rb:=(HFr.out rb (by have h5:=HB0r.out; omega) (wofA.new HH.out.nr (Nat.le_of_eq HRB.out))).2
 have HF:=Lib.hid (And.intro hg' (And.intro how (And.intro hfm (And.intro b0 (And.intro hwo (And.intro hno hRL))))))
 have HF3:=Lib.hid F3.out.b
 clear hg' how hfm hrg hR3 hRL hRO b0 hxk hsk hwo hno HFr F3 HG3 HXo HRn HOX HON
 go_wp2_with ((with_reducible refine at_load 38 ?_); refine wpList_load_mid rfl 65 _ rfl xb 0 rfl [.int .i64 x.en.hd.hgt,.int .i64 x.en.hd.epo,.int .i64 x.en.hd.vw,.bool x.en.hd.last,.string ⟨x.en.hd.par.toArray⟩,.string ⟨x.en.hd.st.toArray⟩,.string ⟨x.en.hd.rc.toArray⟩,.string ⟨x.en.hd.tx.toArray⟩,.string ⟨x.en.hd.mem.toArray⟩,.string ⟨x.en.hd.nxt.toArray⟩,.slice x.kA x.en.hd.sk.length x.kc] _ RG Tryz.underlying65 rfl SZH.out ?_)
 refine HSh.out.mono ?_
 rintro e w10 ⟨kA,kc,rfl,hb,hr10,hf10⟩
 obtain ⟨hg',how,hfm,b0,hwo,hno,hRL⟩:=HF.out
 have b10:=b0.below hb b0.lt
 have TH : w10.there rb 0 11:=blk_there b10 11 (by decide)
 have b9:=Blk.setAll [.int .i64 x.en.hd.hgt,.int .i64 x.en.hd.epo,.int .i64 x.en.hd.vw,.bool x.en.hd.last,.string ⟨x.en.hd.par.toArray⟩,.string ⟨x.en.hd.st.toArray⟩,.string ⟨x.en.hd.rc.toArray⟩,.string ⟨x.en.hd.tx.toArray⟩,.string ⟨x.en.hd.mem.toArray⟩,.string ⟨x.en.hd.nxt.toArray⟩,.slice kA x.en.hd.sk.length kc] [] [.int .i64 0,.int .i64 0,.int .i64 0,.bool false,.string ⟨#[]⟩,.string ⟨#[]⟩,.string ⟨#[]⟩,.string ⟨#[]⟩,.string ⟨#[]⟩,.string ⟨#[]⟩,.slice none 0 0] [] w10 rfl b10
 have HG9 : w10.grownBy (w10.setCells rb 0 [.int .i64 x.en.hd.hgt,.int .i64 x.en.hd.epo,.int .i64 x.en.hd.vw,.bool x.en.hd.last,.string ⟨x.en.hd.par.toArray⟩,.string ⟨x.en.hd.st.toArray⟩,.string ⟨x.en.hd.rc.toArray⟩,.string ⟨x.en.hd.tx.toArray⟩,.string ⟨x.en.hd.mem.toArray⟩,.string ⟨x.en.hd.nxt.toArray⟩,.slice kA x.en.hd.sk.length kc]) (some rb):=grown_setAll _ 0 _ (World.grownBy.refl _ _)
 have hr:=run_loadVar_mid (P:=Tryz.prog) (w10.setCells rb 0 [.int .i64 x.en.hd.hgt,.int .i64 x.en.hd.epo,.int .i64 x.en.hd.vw,.bool x.en.hd.last,.string ⟨x.en.hd.par.toArray⟩,.string ⟨x.en.hd.st.toArray⟩,.string ⟨x.en.hd.rc.toArray⟩,.string ⟨x.en.hd.tx.toArray⟩,.string ⟨x.en.hd.mem.toArray⟩,.string ⟨x.en.hd.nxt.toArray⟩,.slice kA x.en.hd.sk.length kc]) rb 0 65 [.int .i64 x.en.hd.hgt,.int .i64 x.en.hd.epo,.int .i64 x.en.hd.vw,.bool x.en.hd.last,.string ⟨x.en.hd.par.toArray⟩,.string ⟨x.en.hd.st.toArray⟩,.string ⟨x.en.hd.rc.toArray⟩,.string ⟨x.en.hd.tx.toArray⟩,.string ⟨x.en.hd.mem.toArray⟩,.string ⟨x.en.hd.nxt.toArray⟩,.slice kA x.en.hd.sk.length kc] _ (range_of_blk b9) Tryz.underlying65 rfl SZH.out
 have hrk : rb < w10.heap.size:=b10.lt
 have HLg:=Lib.hid ((hg'.next hb).far HG9 hRL (fun e=>how (by cases A4 <;> exact e)) hwo hno ⟨_,_,b10,by decide,by decide⟩)
 have HFm : Hid (Frm w (w10.setCells rb 0 [.int .i64 x.en.hd.hgt,.int .i64 x.en.hd.epo,.int .i64 x.en.hd.vw,.bool x.en.hd.last,.string ⟨x.en.hd.par.toArray⟩,.string ⟨x.en.hd.st.toArray⟩,.string ⟨x.en.hd.rc.toArray⟩,.string ⟨x.en.hd.tx.toArray⟩,.string ⟨x.en.hd.mem.toArray⟩,.string ⟨x.en.hd.nxt.toArray⟩,.slice kA x.en.hd.sk.length kc]) lb o):=Lib.hid (by
  have h5:=((Frm.of_below HF3.out lb o).trans hfm).trans ((Frm.of_below hb lb o))
  exact ⟨HG9.os.trans h5.os,HG9.tape.trans h5.tape,HG9.output.trans h5.output,Nat.le_trans h5.size HG9.size,fun k hk h3 h4=>(HG9.block k (Nat.lt_of_lt_of_le hk h5.size) (fun e=>by have h6:=Option.some.inj e; have h7:=HRB.out; omega)).trans (h5.block k hk h3 h4)⟩)
 have HRk:=Lib.hid (reads_off hr10 HG9 (fun a ha e=>by have h5:=hf10 a ha; have h6:=Option.some.inj e; have h7:=b0.lt; omega))
 have HFk:=Lib.hid (fun a (ha : kA = some a)=>Nat.le_trans (Nat.le_trans HF3.out.size hfm.size) (hf10 a ha))
 obtain ⟨W9,h9⟩ : ∃ W9,w10.setCells rb 0 (#[.int .i64 x.en.hd.hgt,.int .i64 x.en.hd.epo,.int .i64 x.en.hd.vw,.bool x.en.hd.last,.string ⟨x.en.hd.par.toArray⟩,.string ⟨x.en.hd.st.toArray⟩,.string ⟨x.en.hd.rc.toArray⟩,.string ⟨x.en.hd.tx.toArray⟩,.string ⟨x.en.hd.mem.toArray⟩,.string ⟨x.en.hd.nxt.toArray⟩,.slice kA x.en.hd.sk.length kc] : Array Value).toList = W9:=⟨_,rfl⟩
 have h9b : w10.setCells rb 0 [.int .i64 x.en.hd.hgt,.int .i64 x.en.hd.epo,.int .i64 x.en.hd.vw,.bool x.en.hd.last,.string ⟨x.en.hd.par.toArray⟩,.string ⟨x.en.hd.st.toArray⟩,.string ⟨x.en.hd.rc.toArray⟩,.string ⟨x.en.hd.tx.toArray⟩,.string ⟨x.en.hd.mem.toArray⟩,.string ⟨x.en.hd.nxt.toArray⟩,.slice kA x.en.hd.sk.length kc] = W9:=h9
 rw [h9b] at hr HLg HFm HRk
 have H9:=Lib.hid h9
 clear h9b h9 hg' how hfm b0 hwo hno hRL b10 b9 HG9 hrk hr10 hf10 hb HSh HF RG
 go_wp2_with ((with_reducible refine at_store 39 ?_); refine wpList_store_as rfl 65 _ _ rfl rb 0 #[.int .i64 x.en.hd.hgt,.int .i64 x.en.hd.epo,.int .i64 x.en.hd.vw,.bool x.en.hd.last,.string ⟨x.en.hd.par.toArray⟩,.string ⟨x.en.hd.st.toArray⟩,.string ⟨x.en.hd.rc.toArray⟩,.string ⟨x.en.hd.tx.toArray⟩,.string ⟨x.en.hd.mem.toArray⟩,.string ⟨x.en.hd.nxt.toArray⟩,.slice kA x.en.hd.sk.length kc] rfl rfl TH SZH.out (by simp [Value.oneCell']) W9 H9.out ?_)
 (try simp only [Exit.inBlock,Exit.then])
 refine bodyPost_ret (v:=.tuple #[.agg #[.int .i64 x.en.hd.hgt,.int .i64 x.en.hd.epo,.int .i64 x.en.hd.vw,.bool x.en.hd.last,.string ⟨x.en.hd.par.toArray⟩,.string ⟨x.en.hd.st.toArray⟩,.string ⟨x.en.hd.rc.toArray⟩,.string ⟨x.en.hd.tx.toArray⟩,.string ⟨x.en.hd.mem.toArray⟩,.string ⟨x.en.hd.nxt.toArray⟩,.slice kA x.en.hd.sk.length kc],.int .i64 0]) (results_cell2 Tryz.results41 rfl hr rfl) rfl ?_
 exact HPo.out x.en.hd kA kc _ W9 (by first | exact trivial | rfl) HLg.out HFm.out HRk.out HFk.out (by simp [LgM.L,HEn.out]) (by rw [HEn.out])
def Led.headO (L : List En) (q : En) (view : Int) (txs : List Ex.Tx) : Hd:=if Led.makeC q view txs = 0 then (Led.makeE L q view txs).hd else zeroHd
def AddXEnd (w : World) (B lb : Nat) (g : LgM) (o : Option Nat) (q : En) (view : Int) (txs : List Ex.Tx) (e : Ending) (w' : World) : Prop :=
 ∃ (hd : Hd) (kA : Option Addr) (kc : Nat) (g' : LgM) (o' : Option Nat),hd = Led.headO g.L q view txs ∧ e = .returned (.tuple #[.agg #[.int .i64 hd.hgt,.int .i64 hd.epo,.int .i64 hd.vw,.bool hd.last,.string ⟨hd.par.toArray⟩,.string ⟨hd.st.toArray⟩,.string ⟨hd.rc.toArray⟩,.string ⟨hd.tx.toArray⟩,.string ⟨hd.mem.toArray⟩,.string ⟨hd.nxt.toArray⟩,.slice kA hd.sk.length kc],.int .i64 (Led.makeC q view txs : Int)]) ∧ LgO w' B lb g' o' ∧ Frm w w' lb o ∧ Reads w' w'.heap.size 1 kA hd.sk.length (strv hd.sk) ∧ (∀ a,kA = some a → w.heap.size ≤ a.block) ∧ g'.L = (Led.addW g.L view txs).1
theorem led_AddX (w : World) (B lb : Nat) (g : LgM) (o : Option Nat) (h : LgO w B lb g o) (hT : Tbl w) (hfew : ∀ e ∈ g.L,Trie.count e.st ≤ 900) (n : Nat) (hn : g.L.length = n + 1) (q : En) (hq : g.L[n]? = some q) (view : Int) (tl : List TxM) (xA : Option Addr) (xc : Nat) (HT : TxsAt w xA tl) :
  Calls Tryz.prog 41 #[.pointer (some ⟨lb,0,none⟩),.int .i64 view,.slice xA tl.length xc] w (AddXEnd w B lb g o q view (tl.map (·.1))):=by
 have hne : g.es.length = n + 1:=by rw [← hn,List.length_map]
 obtain ⟨p,hp⟩ : ∃ p,g.es[n]'(by omega) = p:=⟨_,rfl⟩
 have hpe : p.en = q:=by rw [List.getElem?_map,List.getElem?_eq_getElem (by omega),hp] at hq; exact Option.some.inj hq
 refine (led_AddO w B lb g o h hT hfew n hne p hp view tl xA xc HT).mono ?_
 rintro e w' ⟨hd,kA,kc,g',he,hfm,hr,hf,hy,hno⟩
 rw [hpe] at he hy hno
 have e2 : g.L[n]'(by omega) = q:=by rw [List.getElem?_eq_getElem (by omega)] at hq; exact Option.some.inj hq
 by_cases hc : Led.makeC q view (tl.map (·.1)) = 0
 ·obtain ⟨y1,y2,y3⟩:=hy hc
  exact ⟨hd,kA,kc,g',_,by unfold Led.headO; rw [if_pos hc]; exact y3,he,y1.toO,hfm,hr,hf,by rw [Led.add_ok hn hq hc]; exact y2⟩
 ·obtain ⟨y1,y2,y3⟩:=hno hc
  exact ⟨hd,kA,kc,g',o,by unfold Led.headO; rw [if_neg hc]; exact y3,he,by rw [y2]; exact y1,hfm,hr,hf,by
   rw [y2]
   unfold Led.addW
   rw [Led.last_of hn,e2]
   simp only
   rw [if_neg hc]⟩
def LgM.fork (g : LgM) : LgM:=⟨g.es,g.aA,g.es.length,g.nx,g.nA,g.nc⟩
theorem LgAt.fork {w w' : World} {B lb : Nat} {g : LgM} (h : LgAt w B lb g) {fb : Nat} (hb : Below w.heap.size w w') (hf : Blk w' fb 147 #[.slice g.fork.aA g.fork.es.length g.fork.ac,.slice g.fork.nA g.fork.nx.length g.fork.nc]) (hl : w.heap.size ≤ fb) : LgO w' w.heap.size fb g.fork none :=
 have r:=h.toLgRd.next hb
 { blk:=hf,r:=r.r,ok:=r.ok,nr:=r.nr,wf:=r.wf,rt:=r.rt,nx:=r.nx,row:=.inr ⟨rfl,rfl⟩,lo:=hl,off:=fun e he=>⟨(h.ok e he).new hl,fun k hk=>by cases hk⟩,noff:=⟨wofA.new h.nr hl,fun k hk=>by cases hk⟩ }
def ForkEnd (w : World) (g : LgM) (e : Ending) (w' : World) : Prop :=
 ∃ fb,e = .returned (.pointer (some ⟨fb,0,none⟩)) ∧ Below w.heap.size w w' ∧ LgO w' w.heap.size fb g.fork none
set_option maxRecDepth 100000 in
set_option maxHeartbeats 1000000 in
theorem led_Fork (w : World) (B lb : Nat) (g : LgM) (h : LgAt w B lb g) :
  Calls Tryz.prog 40 #[.pointer (some ⟨lb,0,none⟩)] w (ForkEnd w g):=by
 have HP : Hid (∀ fb w',Below w.heap.size w w' → Blk w' fb 147 #[.slice g.fork.aA g.fork.es.length g.fork.ac,.slice g.fork.nA g.fork.nx.length g.fork.nc] → w.heap.size ≤ fb → ForkEnd w g (.returned (.pointer (some ⟨fb,0,none⟩))) w'):=Lib.hid (fun fb w' h1 h2 h3=>⟨fb,rfl,h1,h.fork h1 h2 h3⟩)
 generalize ForkEnd w g = P at HP ⊢
 have hB:=h.blk
 obtain ⟨n,hn⟩:=h.pos
 have hle : g.es.length ≤ 1048577:=by have:=h.wf.le; rw [List.length_map] at this; exact this
 obtain ⟨ad,ha,hc⟩ : ∃ ad,g.aA = some ⟨ad,0,none⟩ ∧ g.es.length ≤ g.ac:=by
  rcases h.own.2 with ⟨e,e2⟩ | ⟨q,cap,cur,e,_,_,hcap,_⟩
  ·omega
  ·unfold LgM.al at e
   injection e with e1 e2 e3
   exact ⟨q,e1,by omega⟩
 unfold LgM.fork at HP
 simp only [ha] at HP hB
 generalize g.es.length = m at *
 generalize g.nx.length = nl at *
 generalize g.nA = nA at *
 generalize g.nc = nc at *
 generalize g.ac = ac at *
 have hc1 : (m : Int) ≤ (ac : Int):=by omega
 have hc0 : (0 : Int) ≤ (m : Int):=by omega
 clear h ha hn
 have k0 : w.cell? ⟨lb,0,none⟩ = some (.slice (some ⟨ad,0,none⟩) m ac):=hB.cell 0
 have k1 : w.cell? ⟨lb,1,none⟩ = some (.slice nA nl nc):=hB.cell 1
 have HS : Hid (∀ W,Below w.heap.size w W → W.cell? ⟨lb,0,none⟩ = some (.slice (some ⟨ad,0,none⟩) m ac) ∧ W.cell? ⟨lb,1,none⟩ = some (.slice nA nl nc)):=Lib.hid (fun W hW=>by
  have b:=hB.below hW hB.lt
  exact ⟨b.cell 0,b.cell 1⟩)
 have F0:=Lib.hid (Live.start w)
 go_enter Tryz.func40,Tryz.ntmps40
 go_upto_region 2 with fail
 refine wp_region_noPanic ?_
 refine wp_region_held_drew (S:=fun w'=>w'.cell? ⟨lb,0,none⟩ = some (.slice (some ⟨ad,0,none⟩) m ac) ∧ w'.cell? ⟨lb,1,none⟩ = some (.slice nA nl nc)) (by kernel_rfl) (HS.out _ (live_drew F0).out.b) (fun hHeld => ?_)
 have F:=live_drew F0
 generalize w.drew = Wd at F hHeld ⊢
 try go_frame
 refine tk 0 9 rfl ?_
 try go_frame
 refine tk 1 10 rfl ?_
 try go_frame
 refine tk 2 11 rfl ?_
 try go_frame
 refine tk 3 12 rfl ?_
 try go_frame
 refine tk 4 13 rfl ?_
 try go_frame
 refine tk 5 14 rfl ?_
 try go_frame
 refine tk 6 15 rfl ?_
 try go_frame
 refine tk 7 16 rfl ?_
 try go_frame
 refine tk 8 17 rfl ?_
 try go_frame
 refine tk 9 18 rfl ?_
 try go_frame
 refine tk 10 19 rfl ?_
 try go_frame
 refine tk 11 20 rfl ?_
 try go_frame
 refine rd1 12 rfl (fun K hK => ?_)
 go_simp
 have F:=Live.ha F #[.slice (some ⟨ad,0,none⟩) m m,.slice nA nl nc] 147
 refine hK.out _ _ (HS.out _ F.out.b) (fun hHeld => ?_)
 clear hK K
 try go_frame
 generalize Wd.alloc (.cells #[.slice (some ⟨ad,0,none⟩) m m,.slice nA nl nc] 147) = We at F hHeld ⊢
 generalize Wd.heap.size = fb at F ⊢
 refine tk 13 2 rfl ?_
 try go_frame
 refine wpAnyH_done (by kernel_rfl) ?_ _
 refine NoPanic.normal ?_
 go_wp2_with fail
 exact HP.out fb _ F.out.b (F.out.blk 0 rfl) (F.out.own 0 rfl)
set_option maxRecDepth 100000 in
theorem lg_HeightB (w : World) (lb : Nat) (g : LgM) (hB : Blk w lb 147 #[.slice g.aA g.es.length g.ac,.slice g.nA g.nx.length g.nc]) (hle : g.es.length ≤ 1048577) : Calls Tryz.prog 26 #[.pointer (some ⟨lb,0,none⟩)] w fun e w'=>e = .returned (.int .i64 ((g.es.length : Int) - 1)) ∧ w = w':=by
 have k0 : w.cell? ⟨lb,0,none⟩ = some (.slice g.aA g.es.length g.ac):=hB.cell 0
 have HP : Hid ((fun e w'=>e = Ending.returned (.int .i64 ((g.es.length : Int) - 1)) ∧ w = w') (Ending.returned (.int .i64 ((g.es.length : Int) - 1))) w):=Lib.hid ⟨rfl,rfl⟩
 generalize (fun e w'=>e = Ending.returned (.int .i64 ((g.es.length : Int) - 1)) ∧ w = w') = P at HP ⊢
 have hwl : IntKind.i64.wrap ((g.es.length : Int) - 1) = (g.es.length : Int) - 1:=IntWalk.i64_in _ (by omega)
 clear hB hle
 go_enter Tryz.func26,Tryz.ntmps26
 go_wp2_with fail
 exact HP.out
end Go.Proofs.YtnelhjfjkkdoaaaGreatDoor
