/- Operation by operation. Bytes and strings; interfaces that are nil or not; bound functions. -/
import Derived.Test.YtbmicihfhfcpkaaW01
import Derived.Laws.BytesString
import Derived.Lib.ConvBytes
import Derived.Lib.UnsafeStr
import Derived.Maps.RangeRun
import Derived.Orders
set_option linter.unusedVariables false
set_option linter.unusedSectionVars false
set_option linter.unusedSimpArgs false
namespace Go.Nac
variable [Env]
section
variable {R:CCode → Code → Prop} {P:Program} {M:List Blk} {L:Loc} {w:World} {ρ:CX → PV} {σ:Operand → Value}
theorem QnE (S:Sim R M L w) (H:Fit M L w ρ σ) {o:Oper} {f:FuncId} {xs:List CX} {first:Array Operand} (ho:o.op = .makeFunc (.func f) first #[]) (hx:okXs xs first.toList = true) :
  Good R P (execOp σ o) M L w (.fn (.func f) (xs.map ρ) []) M:=by
 have k:=H.list hx
 refine Qg S (cv:=.func (.func f) (first.map σ) #[]) (by simp [execOp,ho,Instr.makeFunc]) (.fn _ _ _ _ _ ?_ .nil)
 simpa using k
theorem QaC (d:Nat) {t:TypeId} {ms:Array (String × TypeId)} (ht:P.underlying t = some (.interface ms)) (a:TypeId) (b:Value):(Op.equalIn (d + 1) t (.iface a b) .nilIface).run P w = .ok false w:=by
 simp [Op.equalIn,run_underlying ht]
theorem QbY (d:Nat) {t:TypeId} {ms:Array (String × TypeId)} (ht:P.underlying t = some (.interface ms)):(Op.equalIn (d + 1) t .nilIface .nilIface).run P w = .ok true w:=by
 simp [Op.equalIn,run_underlying ht]
theorem Qer {neg:Bool} {t:TypeId} {ms:Array (String × TypeId)} (ht:P.underlying t = some (.interface ms)) (a:TypeId) (b:Value):(binOp (if neg then .neq else .eql) t (.iface a b) .nilIface).run P w = .ok (.bool neg) w:=by
 have h:=QaC (w:=w) 9999 ht a b
 cases neg
 ·show Sem.run P (do pure (Value.bool (← Op.equal t (.iface a b) .nilIface))) w = _
  simp only [Sem.run_bind,Op.equal,Op.maxDepth,h,Result.andThen_ok,Sem.run_pure]
 ·show Sem.run P (do pure (Value.bool (!(← Op.equal t (.iface a b) .nilIface)))) w = _
  simp only [Sem.run_bind,Op.equal,Op.maxDepth,h,Result.andThen_ok,Sem.run_pure];rfl
theorem Qh8 {neg:Bool} {t:TypeId} {ms:Array (String × TypeId)} (ht:P.underlying t = some (.interface ms)):(binOp (if neg then .neq else .eql) t .nilIface .nilIface).run P w = .ok (.bool (!neg)) w:=by
 have h:=QbY (w:=w) 9999 ht
 cases neg
 ·show Sem.run P (do pure (Value.bool (← Op.equal t .nilIface .nilIface))) w = _
  simp only [Sem.run_bind,Op.equal,Op.maxDepth,h,Result.andThen_ok,Sem.run_pure];rfl
 ·show Sem.run P (do pure (Value.bool (!(← Op.equal t .nilIface .nilIface)))) w = _
  simp only [Sem.run_bind,Op.equal,Op.maxDepth,h,Result.andThen_ok,Sem.run_pure]
theorem QcU (op:BinOp) (t:TypeId) (x y:Operand) (a:TypeId) (b:Value):(eqGuard op t x y (.iface a b) .nilIface).run P w = .ok () w:=by cases op <;> rfl
theorem QdE (op:BinOp) (t:TypeId) (x:Operand) (c:Value):(eqGuard op t x (.const c) .nilIface .nilIface).run P w = .ok () w:=by cases op <;> cases x <;> rfl
theorem QmV (S:Sim R M L w) (H:Fit M L w ρ σ) {o:Oper} {neg:Bool} {t ty:TypeId} {ms:Array (String × TypeId)} {x:CX} {x':Operand} (ho:o.op = .binOp (if neg then .neq else .eql) t x' (.const .nilIface) ty) (hx:okX x x' = true)
  (hσ:∀ v,σ (.const v) = v) (ht:P.underlying t = some (.interface ms)) {v:PV} {M':List Blk} (h:res M ρ (.isnil neg x) = some (v,M')):Good R P (execOp σ o) M L w v M':=by
 have k1:=H x x' hx
 simp only [res] at h
 split at h
 ·rename_i e1
  rw [e1] at k1
  simp only [Option.some.injEq,Prod.mk.injEq] at h
  obtain ⟨rfl,rfl⟩:=h
  generalize hc:σ x' = c at k1
  cases k1 with
  | err tt vv =>
   refine Qg S ?_ (.s _ rfl)
   simp only [execOp,ho,hc,hσ,Sem.run_bind,QcU,Result.andThen_ok,Qer ht,Sem.run_pure]
 ·rename_i e1
  rw [e1] at k1
  simp only [Option.some.injEq,Prod.mk.injEq] at h
  obtain ⟨rfl,rfl⟩:=h
  have hc:=k1.s_inv
  refine Qg S ?_ (.s _ rfl)
  simp only [execOp,ho,hc,hσ,Sem.run_bind,QdE,Result.andThen_ok,Qh8 ht,Sem.run_pure]
 ·cases h
theorem Qge:∀ {xs:List PV} {s:ByteArray},strOf xs = some s → ∃ ns:List Int,xs = ns.map (fun n => .s (.int .u8 n)) ∧ s.data.toList = ns.map fun n => UInt8.ofNat n.toNat:=by
 intro xs
 induction xs with
 | nil => intro s h;cases h;exact ⟨[],rfl,rfl⟩
 | cons x xs ih =>
  intro s h
  unfold strOf at h
  split at h
  ·rename_i heq;cases heq
  ·rename_i n r heq
   cases heq
   cases hs:strOf xs with
   | none => rw [hs] at h;cases h
   | some t =>
    rw [hs] at h
    cases h
    obtain ⟨ns,rfl,h2⟩:=ih hs
    exact ⟨n :: ns,rfl,by simp [h2]⟩
  ·cases h
theorem Qg7 (ns:List Int):∀ r:ByteArray,(ns.foldl (fun r n => r.push (UInt8.ofNat n.toNat)) r).data.toList = r.data.toList ++ ns.map fun n => UInt8.ofNat n.toNat:=by
 induction ns with
 | nil => intro r;simp
 | cons n ns ih => intro r;rw [List.foldl_cons,ih];simp
theorem g_b2s (S:Sim R M L w) (H:Fit M L w ρ σ) {o:Oper} {s t e:TypeId} {x:CX} {x':Operand} (ho:o.op = .convert s t x') (hx:okX x x' = true) (hs:P.underlying s = some (.slice e)) (he:P.underlying e = some (.int .u8))
  (ht:P.underlying t = some .string) {v:PV} {M':List Blk} (h:res M ρ (.b2s x) = some (v,M')):Good R P (execOp σ o) M L w v M':=by
 have k1:=H x x' hx
 simp only [res] at h
 split at h
 ·cases h
 ·rename_i p hno
  simp only [Option.map_eq_some_iff,Option.bind_eq_some_iff,Prod.mk.injEq] at h
  obtain ⟨b,⟨ys,h1,h2⟩,rfl,rfl⟩:=h
  obtain ⟨ns,rfl,hb⟩:=Qge h2
  obtain ⟨us,hr,hl,hf⟩:=YP (P:=P) S k1 h1 (k:=1) (fun y hy => by obtain ⟨n,_,rfl⟩:=List.mem_map.1 hy;rfl) (by decide)
  have hus:us = ns.map (.int .u8):=by
   clear hf hl h1 h2 hb
   induction ns generalizing us with
   | nil => cases hr;rfl
   | cons n ns ih =>
    cases hr with
    | cons _ v _ vs a b => rw [a.s_inv,ih _ b];rfl
  subst hus
  have hsl:∃ a n c,σ x' = .slice a n c:=by
   revert hno h1 k1
   generalize ρ x = p;generalize σ x' = c
   intro k1 hno h1
   cases k1 with
   | fs _ a n cap => exact ⟨_,_,_,rfl⟩
   | os _ _ _ len _ _ _ a cap => exact ⟨_,_,_,rfl⟩
   | os' _ _ _ len _ _ _ _ a cap => exact ⟨_,_,_,rfl⟩
   | s v hv =>
    unfold held at h1
    split at h1
    ·rename_i e;cases e
    ·rename_i e;cases e;exact ⟨_,_,_,rfl⟩
    ·rename_i b e;cases e;exact absurd rfl (hno b)
    ·rename_i e;cases e
    ·cases h1
   | _ => unfold held at h1;cases h1
  obtain ⟨a,n,c,hc⟩:=hsl
  rw [hc] at hl
  have hn:n = (ns.map fun n => PV.s (.int .u8 n)).length:=by simpa [Builtin.lenOf] using hl
  have hfin:=hf n w (by omega) rfl
  rw [hc] at hfin
  refine Qg S ?_ (.s _ rfl)
  have key:(Conv.bytesToString (.slice a n c)).run P w = .ok (.string b) w:=by
   cases a with
   | none =>
    have:n = 0:=by
     have h9:(Result.ok #[] w:Result (Array Value)) = Result.ok (List.take (n * 1) (ns.map (Value.int .u8))).toArray w:=hfin
     injection h9 with h9 _
     have h9:=congrArg Array.size h9
     rw [hn] at h9 ⊢
     simpa using h9.symm
    have hns:ns = []:=by rw [this] at hn;simpa using hn.symm
    subst hns
    have:b = ByteArray.empty:=by
     cases b with
     | mk d => simp at hb;subst hb;rfl
    subst this
    rfl
   | some ad =>
    have hload:(loadCells ad n).run P w = .ok (ns.map (Value.int .u8)).toArray w:=by
     have:=hfin
     simp only [Builtin.firstCells,Nat.mul_one] at this
     rw [this,List.take_of_length_le (by simp [hn])]
    rw [run_bytesToString w ad n c ns hload]
    congr 2
    have:=Qg7 ns ByteArray.empty
    cases b with
    | mk d =>
     simp only at hb
     rw [← hb] at this
     generalize List.foldl _ _ ns = z at this ⊢
     cases z with
     | mk z => simp at this;rw [this]
  simp only [execOp,ho,hc,Sem.run_bind,run_convert_bytes_string w s t e a n c hs he ht,key,Result.andThen_ok,Sem.run_pure]
theorem QfU (b:ByteArray):(QH b).flatMap PV.cells = (b.data.toList.map fun u => Value.int .u8 u.toNat).map .s:=by
 unfold QH
 induction b.data.toList with
 | nil => rfl
 | cons u l ih => simp only [List.map_cons,List.flatMap_cons,ih];rfl
theorem Yk (b:ByteArray):(QH b).length = b.size:=by simp [QH]
theorem Qhe (b:ByteArray):LRel M L w ((QH b).flatMap PV.cells) (b.data.toList.map fun u => Value.int .u8 u.toNat):=by
 rw [QfU]
 induction b.data.toList with
 | nil => exact .nil
 | cons u l ih => exact .cons _ _ _ _ (.s _ rfl) ih
theorem QbB (w:World) (e:TypeId) (b:ByteArray):(Lib.bytesCells w e b).toList.take ((QH b).length * 1) = b.data.toList.map fun u => Value.int .u8 u.toNat:=by
 rw [Yk,Nat.mul_one]
 simp only [Lib.bytesCells,Array.toList_append,Array.toList_map]
 rw [List.take_left' (by simp)]
theorem QbC (w:World) (e:TypeId) (b:ByteArray):(Lib.bytesCells w e b).size = b.size + (grownCap w b.size 0 e - b.size):=by simp [Lib.bytesCells]
theorem V8 (w:World) (e:TypeId) (b:ByteArray):(Lib.bytesWorld w e b).heap = w.heap.push (.cells (Lib.bytesCells w e b) e ((Lib.bytesCells w e b).size,(Lib.bytesCells w e b).size + 1)):=by
 apply Array.ext_getElem?
 intro k
 rcases Nat.lt_trichotomy k w.heap.size with h|h|h
 ·rw [Lib.bytesWorld_at_old w e b k h,Array.getElem?_push_lt h];exact Array.getElem?_eq_getElem h
 ·subst h;rw [Lib.bytesWorld_at_new];simp
 ·rw [Array.getElem?_eq_none (by rw [Lib.bytesWorld_size];omega),Array.getElem?_eq_none (by simp;omega)]
theorem Y1 (w:World) (e:TypeId) (b:ByteArray):Same w (Lib.bytesWorld w e b):=by
 unfold Lib.bytesWorld World.freeze
 split
 ·exact ⟨rfl,rfl,rfl,Nat.le_succ _⟩
 ·exact ⟨rfl,rfl,rfl,Nat.le_succ _⟩
theorem Qno (S:Sim R M L w) {w':World} {C:Array Value} {el:TypeId} {z:Nat × Nat} (hw:Same w w') (hh:w'.heap = w.heap.push (.cells C el z)):Evo M L w M L w' ∧ Sim R M L w':=grow S (.cells C el z) hw hh
theorem g_s2b (S:Sim R M L w) (H:Fit M L w ρ σ) {o:Oper} {own:Bool} {s t e:TypeId} {x:CX} {x':Operand} (ho:o.op = .convert s t x') (hx:okX x x' = true) (hs:P.underlying s = some .string) (ht:P.underlying t = some (.slice e))
  (he:P.underlying e = some (.int .u8)) {v:PV} {M':List Blk} (h:res M ρ (.s2b own x) = some (v,M')):Good R P (execOp σ o) M L w v M':=by
 have k1:=H x x' hx
 simp only [res] at h
 split at h
 ·rename_i b e1
  rw [e1] at k1
  have hc:=k1.s_inv
  have hrun:(execOp σ o).run P w = .ok (.value (.slice (some ⟨w.heap.size,0,none⟩) b.size (grownCap w b.size 0 e))) (Lib.bytesWorld w e b):=by
   simp only [execOp,ho,hc,Sem.run_bind,Lib.run_convert_string_bytes w s t e b hs ht he,Result.andThen_ok,Sem.run_pure]
  have hcap:b.size ≤ grownCap w b.size 0 e:=grownCap_ge w _ _ _
  have hr:LRel M L w ((QH b).flatMap PV.cells) ((Lib.bytesCells w e b).toList.take ((QH b).length * 1)):=by rw [QbB];exact Qhe b
  have hk:∀ x ∈ QH b,x.cells.length = 1:=by intro x hx;obtain ⟨u,_,rfl⟩:=List.mem_map.1 hx;rfl
  cases own with
  | true =>
   simp only [if_true,Option.some.injEq,Prod.mk.injEq] at h
   obtain ⟨rfl,rfl⟩:=h
   obtain ⟨E,S',hv⟩:=QdJ S hk hr (Y1 w e b) (V8 w e b) (.inr (Nat.le_refl _)) (grownCap w b.size 0 e) (by rw [Yk];exact hcap) (by rw [QbC];omega) 0
   rw [Yk] at hv
   exact ⟨_,_,_,.inl hrun,E,S',hv⟩
  | false =>
   simp only [Bool.false_eq_true,if_false,Option.some.injEq,Prod.mk.injEq] at h
   obtain ⟨rfl,rfl⟩:=h
   obtain ⟨E,S'⟩:=Qno S (Y1 w e b) (V8 w e b)
   refine ⟨_,_,_,.inl hrun,E,S',.fs _ _ _ _ 1 _ (Yk b).symm (by rw [Yk];exact hcap) hk (LRel.evo E hr) fun _ => ⟨w.heap.size,0,rfl,by rw [V8];simp,ZV S,fun m u hu => ?_⟩⟩
   have hC:(Lib.bytesCells w e b)[m]? = some u:=by
    rw [List.getElem?_take] at hu
    split at hu
    ·simpa using hu
    ·cases hu
   rw [Nat.zero_add]
   simp [World.cell?,V8,hC]
 ·cases h
theorem QnP (S:Sim R M L w) (H:Fit M L w ρ σ) {o:Oper} {s t e:TypeId} {x:CX} {x':Operand} (ho:o.op = .convert s t x') (hx:okX x x' = true) (hst:s = t) (hs:P.underlying s = some (.slice e)) (he:P.underlying e = some (.int .u8))
  {v:PV} {M':List Blk} (h:res M ρ (.mark x) = some (v,M')):Good R P (execOp σ o) M L w v M':=by
 have k1:=H x x' hx
 simp only [res] at h
 split at h
 ·rename_i i ver off len e1
  rw [e1] at k1
  split at h
  ·rename_i hc
   simp only [Option.some.injEq,Prod.mk.injEq] at h
   obtain ⟨rfl,rfl⟩:=h
   obtain ⟨hown,hpos⟩:=hc
   unfold QbH at hown
   split at hown
   ·rename_i k v xs hi
    simp only [beq_iff_eq] at hown
    subst hown
    obtain ⟨a,cap,hcv,hle,hcap,hm⟩:=k1.os_live hi
    obtain ⟨b,q,c,el,hL,rfl,⟨z,hb,hz⟩,hsz⟩:=hm (by omega)
    have hblt:=(Array.getElem?_eq_some_iff.1 hb).1
    let z':Nat × Nat:=if z.1 == z.2 then (c.size,c.size + 1) else (min z.1 c.size,max z.2 (c.size + 1))
    have hz':Unf c.size z':=by
     show Unf c.size (if z.1 == z.2 then (c.size,c.size + 1) else (min z.1 c.size,max z.2 (c.size + 1)))
     split
     ·exact .inr (Nat.le_refl _)
     ·rename_i hne
      rcases hz with hz|hz
      ·exact absurd (by simpa using hz) hne
      ·exact .inr (by show c.size ≤ min z.1 c.size;omega)
    let w':World:=w.freeze ⟨b,c.size,none⟩ 1
    have hwb:w'.heap[b]? = some (.cells c el z'):=by
     show ((if (1:Nat) = 0 then w else _):World).heap[b]? = _
     rw [if_neg (by decide)]
     show (w.heap.modify b _)[b]? = _
     rw [Array.getElem?_modify,if_pos rfl,hb];rfl
    have hwo:∀ j,j ≠ b → w'.heap[j]? = w.heap[j]?:=by
     intro j hj
     show ((if (1:Nat) = 0 then w else _):World).heap[j]? = _
     rw [if_neg (by decide)]
     show (w.heap.modify b _)[j]? = _
     rw [Array.getElem?_modify,if_neg (Ne.symm hj)]
    have hws:w'.heap.size = w.heap.size:=by
     show ((if (1:Nat) = 0 then w else _):World).heap.size = _
     rw [if_neg (by decide)]
     show (w.heap.modify b _).size = _
     simp
    have hsame:Same w w':=⟨rfl,rfl,rfl,Nat.le_refl _⟩
    obtain ⟨hk0,c2,el2,vs,g1,g2,g3,g4⟩:=Vo S hi hL
    obtain ⟨rfl,rfl⟩:=RowAt.uniq ⟨z,hb,hz⟩ g1
    obtain ⟨E,S'⟩:=Y7 S (ver':=v) (o':=q) (xs':=xs) hi hL ⟨z,hb,hz⟩ hsame ⟨z',hwb,hz'⟩ (fun j hj => hwo j hj) hws rfl (.inr ⟨rfl,rfl,rfl⟩) hk0 g2 g3
    have hset:M.set i (.row true k v xs) = M:=by
     obtain ⟨hlt,he⟩:=List.getElem?_eq_some_iff.1 hi
     rw [← he];exact List.set_getElem_self hlt
    have hLu:L.upd i (some (b,q)) = L:=by
     funext j
     by_cases hj:j = i
     ·subst hj;rw [Loc.upd_self,hL]
     ·rw [Loc.upd_ne _ _ hj]
    rw [hset,hLu] at E S'
    have hrun:(execOp σ o).run P w = .ok (.value (.slice (some ⟨b,q + off * k,none⟩) len cap)) w':=by
     have hshape:w.shape? b = some (el,c.size):=by simp [World.shape?,hb]
     have hcon:(convert s t (.slice (some ⟨b,q + off * k,none⟩) len cap)).run P w = .ok (.slice (some ⟨b,q + off * k,none⟩) len cap) w':=by
      subst hst
      simp [convert,run_underlying hs,run_underlying he,markStringish,hshape]
      rfl
     simp only [execOp,ho,hcv,Sem.run_bind,hcon,Result.andThen_ok,Sem.run_pure]
    refine ⟨_,w',L,.inl hrun,E,S',?_⟩
    exact (hcv ▸ k1).evo E
   ·cases hown
  ·cases h
 ·cases h
end
end Go.Nac
namespace Go.Nac
variable [Env]
section
variable {R:CCode → Code → Prop} {P:Program} {M:List Blk} {L:Loc} {w:World} {ρ:CX → PV} {σ:Operand → Value}
theorem VRel.bp_live {i ver:Nat} {T:TypeId} {c:Value} (h:VRel M L w (.bp i ver T) c) {wr:Bool} {k:Nat} {xs:List PV} (hi:M[i]? = some (.row wr k ver xs)) :
  ∃ b cc,c = .pointer (some ⟨b,0,none⟩) ∧ 0 < xs.length ∧ L i = some (b,0) ∧ RowAt w b cc T ∧ cc.size = k:=by
 cases h with
 | bp _ _ _ _ _ _ b cc hi' hx hL hr hs => rw [hi] at hi';cases hi';exact ⟨b,cc,rfl,hx,hL,hr,hs⟩
 | bp' _ _ _ _ _ _ _ _ hi' hv => rw [hi] at hi';cases hi';omega
theorem VRel.ot_live {i ver len:Nat} {e:TypeId} {c:Value} (h:VRel M L w (.ot i ver len e) c) {wr:Bool} {k:Nat} {xs:List PV} (hi:M[i]? = some (.row wr k ver xs)) :
  ∃ b cap cc,c = .slice (some ⟨b,0,none⟩) len cap ∧ k = 1 ∧ len ≤ xs.length ∧ 0 < len ∧ len ≤ cap ∧ L i = some (b,0) ∧ RowAt w b cc e ∧ cap ≤ cc.size:=by
 cases h with
 | ot _ _ _ _ _ _ b cap cc hi' hx h0 hc hL hr hs => rw [hi] at hi';cases hi';exact ⟨b,cap,cc,rfl,rfl,hx,h0,hc,hL,hr,hs⟩
 | ot' _ _ _ _ _ _ _ _ _ _ hi' hv => rw [hi] at hi';cases hi';omega
theorem Qj9 (S:Sim R M L w) {o:Oper} {z:List Value} {t:TypeId} (ho:o.op = .alloc t) (hz:okZ P t (some z.length) z = true)
  {v:PV} {M':List Blk} (h:res M ρ (.balloc t z) = some (v,M')):Good R P (execOp σ o) M L w v M':=by
 obtain ⟨zv,h1,h2,h3,h4,h5⟩:=Vy hz
 simp only [res,Option.some.injEq,Prod.mk.injEq] at h
 obtain ⟨rfl,rfl⟩:=h
 have hrun:(execOp σ o).run P w = .ok (.value (.pointer (some ⟨w.heap.size,0,none⟩))) { w with heap:=w.heap.push (.cells zv.cells t) }:=by
  simp [execOp,ho,Instr.alloc,VY h1,newVar,newRow]
  try rfl
 obtain ⟨E,S'⟩:=push S (.row true z.length 0 [.agg (z.map .s)]) (some (.cells zv.cells t)) (w':={ w with heap:=w.heap.push (.cells zv.cells t) }) ⟨rfl,rfl,rfl,(by first|exact Nat.le_refl _|exact Nat.le_succ _|simp)⟩ rfl (by
  rintro _ _ rfl rfl E
  refine ⟨by simp [PV.cells],fun b q hL => ?_,fun hL => by simp [Loc.upd_self] at hL⟩
  simp only [Loc.upd_self,Option.map_some,Option.some.injEq,Prod.mk.injEq] at hL
  obtain ⟨rfl,rfl⟩:=hL
  refine ⟨zv.cells,t,z,.mk0 (by simp),?_,fun m u hu => by rw [Nat.zero_add];rw [← h2] at hu;simpa using hu⟩
  simp only [List.flatMap_cons,List.flatMap_nil,List.append_nil,PV.cells]
  exact LRel.map_s z h3)
 refine ⟨_,_,_,.inl hrun,E,S',?_⟩
 exact .bp M.length 0 t true z.length [.agg (z.map .s)] w.heap.size zv.cells (by simp) (by simp) (by simp [Loc.upd_self]) (.mk0 (by simp)) (by rw [← Array.length_toList,h2])
theorem Qnz (S:Sim R M L w) (H:Fit M L w ρ σ) {o:Oper} {x:CX} {x':Operand} (ho:o.op = .nilCheck x') (hx:okX x x' = true)
  {v:PV} {M':List Blk} (h:res M ρ (.unty x) = some (v,M')):Good R P (execOp σ o) M L w v M':=by
 have k1:=H x x' hx
 simp only [res] at h
 split at h
 ·rename_i i ver T e1
  split at h
  ·rename_i hl
   obtain ⟨wr,k,xs,hi⟩:=VO hl
   simp only [Option.some.injEq,Prod.mk.injEq] at h
   obtain ⟨rfl,rfl⟩:=h
   rw [e1] at k1
   generalize hc:σ x' = c at k1
   obtain ⟨b,cc,rfl,hx0,hL,hr,_⟩:=k1.bp_live hi
   refine Qg S (by simp [execOp,ho,hc];rfl) ?_
   have:=VRel.op (M:=M) (L:=L) (w:=w) i ver 0 0 wr k xs b 0 hi hx0 hL
   simpa using this
  ·cases h
 ·cases h
theorem g_usd (S:Sim R M L w) (H:Fit M L w ρ σ) {o:Oper} {x:CX} {x':Operand} {ts:Array TypeId} (ho:o.op = .call { callee:=.builtin .unsafeSliceData,args:=#[x'],argTypes:=ts }) (hx:okX x x' = true)
  {v:PV} {M':List Blk} (h:res M ρ (.usd x) = some (v,M')):Good R P (execOp σ o) M L w v M':=by
 have k1:=H x x' hx
 simp only [res] at h
 split at h
 ·rename_i e1
  simp only [Option.some.injEq,Prod.mk.injEq] at h
  obtain ⟨rfl,rfl⟩:=h
  rw [e1] at k1
  have hc:=k1.s_inv
  refine Qg S (cv:=.pointer none) ?_ (.s _ rfl)
  have hr:(Builtin.unsafeSliceData_ ts o.type #[.slice none 0 0]).run P w = .ok (.pointer none) w:=rfl
  simp [execOp,ho,resolve,invoke,builtin,hc,hr]
 ·rename_i i ver len e e1
  split at h
  ·rename_i hl
   obtain ⟨wr,k,xs,hi⟩:=VO hl
   simp only [Option.some.injEq,Prod.mk.injEq] at h
   obtain ⟨rfl,rfl⟩:=h
   rw [e1] at k1
   generalize hc:σ x' = c at k1
   obtain ⟨b,cap,cc,rfl,rfl,hx0,h0,hcap,hL,hr,hs⟩:=k1.ot_live hi
   have hc0:cap ≠ 0:=by omega
   refine Qg S (cv:=.pointer (some ⟨b,0,none⟩)) ?_ ?_
   ·have hr:(Builtin.unsafeSliceData_ ts o.type #[.slice (some ⟨b,0,none⟩) len cap]).run P w = .ok (.pointer (some ⟨b,0,none⟩)) w:=by
     show Sem.run P (if cap ≠ 0 then pure (Value.pointer (some ⟨b,0,none⟩)) else _) w = _
     rw [if_pos hc0];rfl
    simp [execOp,ho,resolve,invoke,builtin,hc,hr]
   ·have:=VRel.op (M:=M) (L:=L) (w:=w) i ver 0 0 wr 1 xs b 0 hi (by omega) hL
    simpa using this
  ·cases h
 ·cases h
theorem Qee:∀ {xs:List PV} {s:ByteArray},strOf xs = some s → (∀ x ∈ xs,∃ n,x = .s (.int .u8 n) ∧ 0 ≤ n ∧ n < 256) → ∀ {vs:List Value},LRel M L w (xs.flatMap PV.cells) vs → vs = s.data.toList.map fun u => Value.int .u8 u.toNat:=by
 intro xs
 induction xs with
 | nil => intro s h _ vs hr;cases h;cases hr;rfl
 | cons x xs ih =>
  intro s h hx vs hr
  obtain ⟨n,rfl,h0,h1⟩:=hx x (by simp)
  unfold strOf at h
  cases hs:strOf xs with
  | none => rw [hs] at h;cases h
  | some t =>
   rw [hs] at h
   cases h
   cases hr with
   | cons _ v _ vs' a b =>
    rw [ih hs (fun y hy => hx y (by simp [hy])) b,a.s_inv]
    have:((UInt8.ofNat n.toNat).toNat:Int) = n:=by
     have:(UInt8.ofNat n.toNat).toNat = n.toNat % 256:=by simp
     rw [this];omega
    simp only [List.map_cons]
    rw [this]
theorem QdC {x:PV} (h:Yf x = true):∃ n,x = .s (.int .u8 n) ∧ 0 ≤ n ∧ n < 256:=by
 unfold Yf at h
 split at h
 ·rename_i n
  simp only [Bool.and_eq_true,decide_eq_true_eq] at h
  exact ⟨n,rfl,h⟩
 ·cases h
theorem Qnr (S:Sim R M L w) (H:Fit M L w ρ σ) {o:Oper} {e pt it:TypeId} {p n s:CX} {p' n' s':Operand} (ho:o.op = .call { callee:=.builtin .unsafeString,args:=#[p',n'],argTypes:=#[pt,it] }) (hp:okX p p' = true) (hn:okX n n' = true) (hs:okX s s' = true)
  (ht:P.underlying pt = some (.pointer e)) (hc1:P.cellsOf e = 1) {v:PV} {M':List Blk} (h:res M ρ (.ustr e p n s) = some (v,M')):Good R P (execOp σ o) M L w v M':=by
 have k1:=H p p' hp;have k2:=H n n' hn;have k3:=H s s' hs
 simp only [res] at h
 split at h
 ·rename_i e1 e2
  simp only [Option.some.injEq,Prod.mk.injEq] at h
  obtain ⟨rfl,rfl⟩:=h
  rw [e1] at k1;rw [e2] at k2
  have hc:=k1.s_inv;have hd:=k2.s_inv
  refine Qg S (cv:=.string ⟨#[]⟩) ?_ (.s _ rfl)
  have:=Lib.run_unsafeString_none (P:=P) w pt it o.type none
  simp [execOp,ho,resolve,invoke,builtin,hc,hd,this]
  rfl
 ·rename_i i ver l i' ver' len e' e1 e2 e3
  split at h
  ·rename_i k vv xs hi
   split at h
   case isFalse => cases h
   rename_i hcond
   obtain ⟨rfl,rfl,rfl,rfl,rfl,rfl,hx,h24,hall⟩:=hcond
   cases hst:strOf (xs.take len) with
   | none => rw [hst] at h;cases h
   | some str =>
    rw [hst] at h
    simp only [Option.map_some,Option.some.injEq,Prod.mk.injEq] at h
    obtain ⟨rfl,rfl⟩:=h
    rw [e1] at k1;rw [e2] at k2;rw [e3] at k3
    have hd:=k2.s_inv
    generalize hc:σ p' = c at k1
    obtain ⟨b,q,hL,hex,rfl⟩:=k1.op_live hi
    obtain ⟨b',cap,cc,_,_,_,h0,hcap,hL',hr,hs⟩:=k3.ot_live hi
    obtain ⟨rfl,rfl⟩:b = b' ∧ q = 0:=by rw [hL] at hL';cases hL';exact ⟨rfl,rfl⟩
    obtain ⟨hxk,hcells,_⟩:=S.mem i _ hi
    obtain ⟨c2,el,vs,g1,g2,g3⟩:=hcells b 0 hL
    obtain ⟨rfl,hee⟩:=hr.uniq g1
    have hby:∀ x ∈ xs.take len,∃ n,x = .s (.int .u8 n) ∧ 0 ≤ n ∧ n < 256:=fun x hx => QdC (List.all_eq_true.1 hall x hx)
    have hk1:∀ x ∈ xs,x.cells.length = 1:=hxk
    have g4:LRel M L w ((xs.take len).flatMap PV.cells) (vs.take len):=by
     have:=g2.take (len * 1)
     rw [Vq hk1] at this
     simpa using this
    have hvs:=Qee hst hby g4
    have hlen:str.data.toList.length = len:=by
     have h1:=g4.length
     rw [hvs,List.length_map,QM (k:=1) (fun x hx => hk1 x (List.mem_of_mem_take hx)),List.length_take] at h1
     omega
    obtain ⟨z,hbz,hz⟩:=hr
    have hsh:w.shape? b = some (e,cc.size):=by simp [World.shape?,hbz]
    have hcell:∀ j x,str.data.toList[j]? = some x → w.cell? ((⟨b,0,none⟩:Addr).add j) = some (.int .u8 x.toNat):=by
     intro j x hj
     have hj':(vs.take len)[j]? = some (.int .u8 x.toNat):=by rw [hvs,List.getElem?_map,hj];rfl
     have hjl:j < len:=by have:=(List.getElem?_eq_some_iff.1 hj).1;omega
     rw [List.getElem?_take,if_pos hjl] at hj'
     have:=g3 j _ hj'
     rw [Nat.zero_add] at this
     rw [Vw]
     simpa [World.cell?,hbz] using this
    have hrun:=Lib.run_unsafeString_row (P:=P) w pt it o.type e ht hc1 b cc.size hsh str.data.toList (by intro h;rw [h] at hlen;simp at hlen;omega) (by omega) (by omega) hcell
    rw [hlen] at hrun
    have hfs:(w.freeze ⟨b,0,none⟩ len).heap.size = w.heap.size:=by unfold World.freeze;split <;> simp
    have hfo:∀ b',b' ≠ b → (w.freeze ⟨b,0,none⟩ len).heap[b']? = w.heap[b']?:=by
     intro b' hb'
     simp only [World.freeze]
     split
     ·rfl
     ·simp only [Array.getElem?_modify];rw [if_neg (fun e => hb' e.symm)]
    obtain ⟨E,S'⟩:=change S hi (blk':=.row false 1 (vv + 1) []) (L.upd i none) (fun j hj => Loc.upd_ne _ _ hj) (w':=w.freeze ⟨b,0,none⟩ len) (by constructor <;> (unfold World.freeze;split <;> first|rfl|exact Nat.le_refl _)) (.inl rfl) (by omega)
     (fun b' hb' hne => hfo b' fun e => hne (b,0) rfl hL e.symm) (fun p hp => by rw [Loc.upd_self] at hp;cases hp) ⟨by omega,fun e => by omega⟩
     (fun E => ⟨by simp,(fun b q hL => by rw [Loc.upd_self] at hL;cases hL),fun _ => rfl⟩)
    refine ⟨.string str,_,_,.inl ?_,E,S',.s _ rfl⟩
    have hs2:(⟨str.data.toList.toArray⟩:ByteArray) = str:=by cases str;simp
    rw [hs2] at hrun
    simp [execOp,ho,resolve,invoke,builtin,hc,hd,hrun]
  ·cases h
 ·cases h
end
end Go.Nac
namespace Go.Nac
variable [Env]
section
variable {R:CCode → Code → Prop} {P:Program} {M:List Blk} {L:Loc} {w:World} {ρ:CX → PV} {σ:Operand → Value}
theorem Qn1 (S:Sim R M L w) (H:Fit M L w ρ σ) {o:Oper} {bytes:Nat} {t t1 el:TypeId} {x y:CX} {x' y':Operand} {ts:Array TypeId} {d:TypeDesc} (ho:o.op = .call { callee:=.builtin .append,args:=#[x',y'],argTypes:=ts })
  (hx:okX x x' = true) (hy:okX y y' = true) (hts:ts[0]? = some t) (hts1:ts[1]? = some t1) (ht:P.underlying t = some (.slice el)) (hd:P.underlying t1 = some d) (hdi:∀ kk,d ≠ .int kk)
  (hk:Qu P el = some 1) (hby:(P.info? el).map (·.bytes) = some bytes) {g:Option Nat} {zz:List Value} (hz:okZ P el g zz = true) (hzk:zz.length = 1)
  {v:PV} {M':List Blk} (h:res M ρ (.tapp el bytes x y) = some (v,M')):Good R P (execOp σ o) M L w v M':=by
 have k1:=H x x' hx;have k2:=H y y' hy
 obtain ⟨zv,hzv,hz2,hz3,_,_⟩:=Vy hz
 have hinfo:∃ i,P.info? el = some i ∧ i.bytes = bytes ∧ i.size = 1 ∧ i.zero = some zv:=by
  cases hi:P.info? el with
  | none => rw [hi] at hby;cases hby
  | some i =>
   rw [hi] at hby hzv
   unfold Qu at hk
   rw [hi] at hk
   exact ⟨i,rfl,by simpa using hby,by simpa using hk,by simpa using hzv⟩
 obtain ⟨i,hi,hib,hik,hiz⟩:=hinfo
 have hzs:zv.cells.size = 1:=by have:=congrArg List.length hz2;simpa [hzk] using this
 have htt:∃ t1,ts[1]? = some t1 ∧ ∃ d,P.underlying t1 = some d ∧ ∀ kk,d ≠ .int kk:=⟨t1,hts1,d,hd,hdi⟩
 simp only [res] at h
 cases hh:held M (ρ y) with
 | none => rw [hh] at h;cases h
 | some ys =>
  rw [hh] at h
  simp only at h
  split at h
  case isFalse => cases h
  rename_i hc
  obtain ⟨hall,hpos,hb20⟩:=hc
  obtain ⟨hyk,hyone⟩:=Jg hall
  obtain ⟨us,hyr,hyn,hyf⟩:=YP (P:=P) S k2 hh hyk (by decide)
  have husl:us.length = ys.length * 1:=by rw [← hyr.length];exact QM hyk
  have hnew:∀ w',w'.heap = w.heap → (Builtin.firstCells 1 ys.length (σ y')).run P w' = .ok us.toArray w':=fun w' hw' => by
   rw [hyf ys.length w' (Nat.le_refl _) hw',List.take_of_length_le (by omega)]
  have hex:∀ r w2,(Builtin.append_ ts o.type #[σ x',σ y']).run P w = .ok r w2 → (execOp σ o).run P w = .ok (.value r) w2:=fun r w2 h => by
   simp [execOp,ho,resolve,invoke,builtin,h]
  split at h
  ·rename_i e1
   rw [e1] at k1
   have c1:=k1.s_inv
   split at h
   case isFalse => cases h
   rename_i hsm
   simp only [Option.some.injEq,Prod.mk.injEq] at h
   obtain ⟨rfl,rfl⟩:=h
   obtain ⟨r1,r2⟩:=Yi (P:=P) (w:=w) (t:=t) (el:=el) (i:=i) (z:=zv) (ts:=ts) (ty:=o.type) (base:=none) (sLen:=0) (sCap:=0) (n:=ys.length) (k:=1) (x:=σ y') (olds:=[]) (news:=us) ht hi hiz hik hts htt hyn hnew
    (fun w' _ => by simp [Builtin.firstCells]) (by omega) (by omega)
   obtain ⟨w2,cap,C,hw2,hcap,hCs,hCt,hheap,hrun⟩:=r2 (by omega)
   simp only [Nat.zero_add,List.nil_append,Nat.zero_mul] at hcap hCs hCt hrun
   have hcs:cap ≤ C.size:=by rw [hCs,husl,hzs];omega
   obtain ⟨E,S',hv⟩:=YM S (w':=w2) (k:=1) (xs:=ys) (C:=C) hyk (by rw [← husl,hCt];exact hyr) hw2 hheap cap hcap (by omega) 0
   refine ⟨_,_,_,.inl (hex _ _ (by rw [c1];exact hrun)),E,S',?_⟩
   exact .ot M.length 0 ys.length el true ys w.heap.size cap C (by simp) (Nat.le_refl _) hpos hcap (by simp [Loc.upd_self]) (.mk0 (by rw [hheap];simp)) hcs
  ·rename_i a ver len e' e1
   rw [e1] at k1
   split at h
   ·rename_i k' vv xs hrow
    split at h
    case isFalse => cases h
    rename_i hcond
    obtain ⟨rfl,rfl,hle,hsm,rfl⟩:=hcond
    simp only [Option.some.injEq,Prod.mk.injEq] at h
    obtain ⟨rfl,rfl⟩:=h
    generalize hcx:σ x' = cx at k1
    obtain ⟨b,cap,cc,rfl,_,_,h0,hcap,hL,hb,hcsz⟩:=k1.ot_live hrow
    have c1:=hcx
    have hxk:=(S.mem a _ hrow).1
    have hxk':∀ y ∈ xs.take len,y.cells.length = 1:=fun y hy => hxk y (List.mem_of_mem_take hy)
    have hlen:(xs.take len).length = len:=by simp;omega
    obtain ⟨hk1,c',el'',vs,g1,g2,g3,g4⟩:=Vo S hrow hL
    obtain ⟨rfl,he⟩:=hb.uniq g1
    have hvl:vs.length = xs.length * 1:=by rw [← g2.length];exact QM hk1
    have hosr:LRel M L w ((xs.take len).flatMap PV.cells) (vs.take len):=by
     have:=g2.take (len * 1)
     rw [Vq hk1] at this
     simpa using this
    have hosl:(vs.take len).length = len:=by simp;omega
    have hof:∀ w',w'.heap = w.heap → (Builtin.firstCells 1 len (.slice (some ⟨b,0,none⟩) len cap)).run P w' = .ok (vs.take len).toArray w':=by
     intro w' hw'
     refine run_firstCells_some (P:=P) w' 1 len ⟨b,0,none⟩ len cap (vs.take len) (by simp;omega) fun j v hv => ?_
     have hjl:j < len:=by have:=(List.getElem?_eq_some_iff.1 hv).1;omega
     rw [List.getElem?_take,if_pos hjl] at hv
     have h8:=g3 j v hv
     rw [Vw]
     have h9:w.cell? ⟨b,0 + j,none⟩ = some v:=by rw [hb.cell];exact h8
     unfold World.cell? at h9 ⊢
     simp only at h9 ⊢
     rw [hw'];exact h9
    obtain ⟨r1,r2⟩:=Yi (P:=P) (w:=w) (t:=t) (el:=e') (i:=i) (z:=zv) (ts:=ts) (ty:=o.type) (base:=some ⟨b,0,none⟩) (sLen:=len) (sCap:=cap) (n:=ys.length) (k:=1) (x:=σ y') (olds:=vs.take len) (news:=us) ht hi hiz hik hts htt hyn hnew hof hsm (by omega)
    have hnk:∀ x ∈ xs.take len ++ ys,x.cells.length = 1:=fun x hx => (List.mem_append.1 hx).elim (hxk' x) (hyk x)
    have hnr:LRel M L w ((xs.take len ++ ys).flatMap PV.cells) (vs.take len ++ us):=by rw [List.flatMap_append];exact hosr.append hyr
    have hnl:(xs.take len ++ ys).length = len + ys.length:=by rw [List.length_append,hlen]
    have hai:a < M.length:=(List.getElem?_eq_some_iff.1 hrow).1
    by_cases hroom:len + ys.length ≤ cap
    ·have hone:=hyr.one hyone
     obtain ⟨z,hbz,hz⟩:=hb
     have hb:RowAt w b cc e':=⟨z,hbz,hz⟩
     have hst:=Yg P b (0 + len * 1) e' z us 0 cc w hbz hz (by omega) hone
     simp only [Nat.add_zero] at hst
     have hrun:=r1 hroom _ (by simp only [Vw];exact hst)
     obtain ⟨E,S'⟩:=Y7 S (ver':=vv + 1) (o':=0) (xs':=xs.take len ++ ys) hrow hL hb (w':=w.setRow b (cc.toList.take (0 + len * 1) ++ us ++ cc.toList.drop (0 + len * 1 + us.length)).toArray)
      ⟨rfl,rfl,rfl,(by first|exact Nat.le_refl _|exact Nat.le_succ _|simp)⟩ ⟨z,setRow_heap _ _ _ _ _ _ hbz,hz.size (by simp;omega)⟩ (fun b' hb' => setRow_other _ _ _ _ hb') (setRow_size _ _ _) (by simp;omega) (.inl (by omega)) hnk
      (vs:=vs.take len ++ us) hnr (fun m u hu => by
       have e:((cc.toList.take (0 + len * 1) ++ us ++ cc.toList.drop (0 + len * 1 + us.length)).toArray)[0 + m]? = (Q4 cc.toList (0 + len * 1) us)[0 + m]?:=by simp [Q4]
       rw [e,Zx _ _ _ (by simp;omega)]
       rw [List.getElem?_append,hosl] at hu
       split at hu
       ·rename_i hlt
        rw [if_pos (by omega)]
        rw [List.getElem?_take,if_pos hlt] at hu
        have:=g3 _ _ hu
        simpa using this
       ·rename_i hge
        have hm2:m - len < us.length:=(List.getElem?_eq_some_iff.1 hu).1
        rw [if_neg (by omega),if_pos (by omega),show 0 + m - (0 + len * 1) = m - len from by omega]
        exact hu)
     refine ⟨_,_,_,.inl (hex _ _ (by rw [c1];exact hrun)),E,S',?_⟩
     refine .ot a (vv + 1) (len + ys.length) e' true _ b cap _ (by simp [hai];rfl) (by rw [hnl];omega) (by omega) hroom (by simp [Loc.upd_self]) ⟨z,setRow_heap _ _ _ _ _ _ hbz,hz.size (by simp;omega)⟩ ?_
     simp only [List.size_toArray,List.length_append,List.length_take,List.length_drop,Array.length_toList]
     omega
    ·obtain ⟨w2,cap',C,hw2,hcap',hCs,hCt,hheap,hrun⟩:=r2 hroom
     have hnew2:RowAt w2 w.heap.size C e':=.mk0 (by rw [hheap];simp)
     have old:∀ b,b < w.heap.size → w2.heap[b]? = w.heap[b]?:=by
      intro b hlt
      rw [hheap,Array.getElem?_push_lt hlt];exact (Array.getElem?_eq_getElem hlt).symm
     obtain ⟨E,S'⟩:=change S hrow (blk':=.row true 1 (vv + 1) (xs.take len ++ ys)) (L.upd a (some (w.heap.size,0))) (fun j hj => Loc.upd_ne _ _ hj) (w':=w2) hw2 (.inl rfl) (by rw [hheap];simp) (fun b hb _ => old b hb)
      (fun p hp => by rw [Loc.upd_self] at hp;cases hp;exact .inr (Nat.le_refl _)) ⟨by omega,fun e => by omega⟩ (fun E => by
       refine ⟨hnk,fun b q hL => ?_,fun hL => by rw [Loc.upd_self] at hL;cases hL⟩
       rw [Loc.upd_self] at hL;cases hL
       refine ⟨C,e',vs.take len ++ us,hnew2,LRel.evo E hnr,fun m u hu => ?_⟩
       rw [Nat.zero_add,← Array.getElem?_toList]
       have hm':m < (vs.take len ++ us).length:=(List.getElem?_eq_some_iff.1 hu).1
       rw [← hCt,List.getElem?_take,if_pos hm'] at hu
       exact hu)
     refine ⟨_,_,_,.inl (hex _ _ (by rw [c1];exact hrun)),E,S',?_⟩
     refine .ot a (vv + 1) (len + ys.length) e' true _ w.heap.size cap' C (by simp [hai];rfl) (by rw [hnl];omega) (by omega) hcap' (by simp [Loc.upd_self]) hnew2 ?_
     rw [hCs,List.length_append,hosl,husl,hzs]
     omega
   ·cases h
  ·cases h
end
end Go.Nac
namespace Go.Nac
variable [Env]
section
variable {R:CCode → Code → Prop} {P:Program} {M:List Blk} {L:Loc} {w:World} {ρ:CX → PV} {σ:Operand → Value}
theorem frz1 (S:Sim R M L w) {i k v:Nat} {wr:Bool} {xs:List PV} (hi:M[i]? = some (.row wr k v xs)):Evo M L w (M.set i (.row false k v xs)) L w ∧ Sim R (M.set i (.row false k v xs)) L w:=by
 refine change S hi L (fun _ _ => rfl) ⟨rfl,rfl,rfl,(by first|exact Nat.le_refl _|exact Nat.le_succ _|simp)⟩ (.inr rfl) (Nat.le_refl _) (fun _ _ _ => rfl) (fun p hp => .inl ⟨p,hp,rfl⟩)
  ⟨Nat.le_refl _,fun _ => ⟨rfl,rfl,rfl,fun b o c el _ hc => ⟨c,hc,rfl⟩⟩⟩ fun E => ?_
 obtain ⟨h0,h1,h2⟩:=S.mem i _ hi
 exact ⟨h0,fun b o hb => by obtain ⟨c,el,vs,g1,g2,g3⟩:=h1 b o hb;exact ⟨c,el,vs,g1,g2.evo E,g3⟩,h2⟩
theorem QlT {c:PV} (h:isS c = true):∃ v,c = .s v ∧ oneB c = true:=by
 unfold isS at h
 split at h
 ·exact ⟨_,rfl,h⟩
 ·cases h
theorem Qk0 (S:Sim R M L w) (H:Fit M L w ρ σ) {o:Oper} {n:Nat} {t el:TypeId} {x:CX} {x':Operand} (ho:o.op = .slice t x' none none none) (hx:okX x x' = true)
  (ht:P.underlying t = some (.array n el)) (hz:Qu P el = some 1) {v:PV} {M':List Blk} (h:res M ρ (.arrfz n x) = some (v,M')):Good R P (execOp σ o) M L w v M':=by
 have k1:=H x x' hx
 simp only [res] at h
 split at h
 ·rename_i i ver e e1
  split at h
  ·rename_i k vv xs hi
   split at h
   case isFalse => cases h
   rename_i hcond
   obtain ⟨rfl,rfl,hn⟩:=hcond
   split at h
   ·rename_i cs hxe
    split at h
    case isFalse => cases h
    rename_i hall
    simp only [Option.some.injEq,Prod.mk.injEq] at h
    obtain ⟨rfl,rfl⟩:=h
    rw [e1] at k1
    generalize hc:σ x' = c at k1
    obtain ⟨b,q,hL,hex,rfl⟩:=k1.op_live hi
    obtain ⟨E,S'⟩:=frz1 S hi
    obtain ⟨hk1,c',el',vs,g1,g2,g3,g4⟩:=Vo S hi hL
    have hcl:cs.length = k:=hk1 _ (List.mem_of_getElem? hxe)
    have hone:cs.all oneB = true:=by
     rw [List.all_eq_true]
     intro y hy
     obtain ⟨u,_,hu⟩:=QlT (List.all_eq_true.1 hall y hy)
     exact hu
    have hflat:(xs.flatMap PV.cells).drop (e * k) = cs ++ ((xs.drop (e + 1)).flatMap PV.cells):=by
     obtain ⟨he,hg⟩:=List.getElem?_eq_some_iff.1 hxe
     have:=Vp hk1 e
     first|rw [this]|rw [← this]
     rw [List.drop_eq_getElem_cons he,hg,List.flatMap_cons];rfl
    have hrel:LRel M L w cs ((vs.drop (e * k)).take k):=by
     have:=(g2.drop (e * k)).take k
     rw [hflat,List.take_append_of_le_length (by omega),List.take_of_length_le (by omega)] at this
     exact this
    have hn0:k ≠ 0:=by omega
    have hrun:(Instr.sliceAt t (.pointer (some ⟨b,q + e * k + 0,none⟩)) none none none).run P w = .ok (.slice (some ⟨b,q + e * k + 0,none⟩) k k) w:=by
     simp [Instr.sliceAt,Instr.sureAddr,Instr.sliceBounds,Instr.sliceBound,run_underlying ht,QB hz,Addr.add,hn0]
    refine ⟨_,_,_,.inl (show (execOp σ o).run P w = .ok (.value (.slice (some ⟨b,q + e * k + 0,none⟩) k k)) w by simp only [execOp,ho,hc,Sem.run_bind,Option.map_none];rw [hrun];rfl),E,S',?_⟩
    refine .fs _ _ _ _ 1 ((vs.drop (e * k)).take k) hcl.symm (by omega) (fun y hy => QbP (List.all_eq_true.1 hone y hy)) ?_ (fun _ => ⟨b,q + e * k + 0,rfl,g1.lt,?_,fun m u hu => ?_⟩)
    ·rw [Qbd hone];exact hrel.evo E
    ·rintro ⟨j,bl,p,h1,h2,h3,h4⟩
     have hlt:i < M.length:=(List.getElem?_eq_some_iff.1 hi).1
     rcases Z8 hlt h1 with ⟨rfl,rfl⟩|⟨hne,h1⟩
     ·cases h2
     ·exact S.inj i j _ bl _ _ hi h1 rfl (fun e => hne e.symm) hL h3 h4.symm
    ·rw [g1.cell]
     rw [List.getElem?_take] at hu
     split at hu
     ·rw [List.getElem?_drop] at hu
      have:=g3 _ _ hu
      rw [show q + e * k + 0 + m = q + (e * k + m) from by omega]
      exact this
     ·cases hu
   ·cases h
  ·cases h
 ·cases h
theorem Qj0 {e:PV} {z:List Value} {zv:Value} {k:Nat} (hec:e.cells = z.map .s) (hzs:zv.cells.size = k) (hz2:zv.cells.toList = z) (hz3:∀ u ∈ z,aggV u = false) (hzk:z.length = k) (hel:e.cells.length = k) (hk0:0 < k) (n:Nat) :
  LRel M L w ((List.replicate n e).flatMap PV.cells) (Builtin.zeroCells zv.cells n).toList:=by
 have hsz:(Builtin.zeroCells zv.cells n).size = n * k:=by rw [size_zeroCells,hzs]
 refine LRel.all ?_ fun j x u hx hu => ?_
 ·rw [QM (k:=k) (by intro x hx;rw [List.eq_of_mem_replicate hx];exact hel)];simp [hsz]
 ·have hj:j < n * k:=by
   have:=(List.getElem?_eq_some_iff.1 hu).1
   simpa [hsz] using this
  rw [Zy hel hk0 n j hj,hec] at hx
  rw [Array.getElem?_toList,JS (by rw [hzs];exact hj),hzs,← Array.getElem?_toList,hz2] at hu
  rw [List.getElem?_map,hu] at hx
  simp only [Option.map_some,Option.some.injEq] at hx
  subst hx
  exact .s u (hz3 u (List.mem_of_getElem? hu))
theorem g_clr (S:Sim R M L w) (H:Fit M L w ρ σ) {o:Oper} {k:Nat} {g:Option Nat} {z:List Value} {t el:TypeId} {x:CX} {x':Operand} {ts:Array TypeId} (ho:o.op = .call { callee:=.builtin .clear,args:=#[x'],argTypes:=ts })
  (hx:okX x x' = true) (hts:ts[0]? = some t) (ht:P.underlying t = some (.slice el)) (hz:okZ P el g z = true) (hzk:z.length = k)
  {v:PV} {M':List Blk} (h:res M ρ (.clr k g z x) = some (v,M')):Good R P (execOp σ o) M L w v M':=by
 have k1:=H x x' hx
 obtain ⟨zv,hzv,hz2,hz3,hz4,hz5⟩:=Vy hz
 have hzs:zv.cells.size = k:=by have:=congrArg List.length hz2;simpa [hzk] using this
 have hzero:=fun w => VY (P:=P) (w:=w) hzv
 have hnil:∀ a c,(Builtin.clear_ ts o.type #[.slice a 0 c]).run P w = .ok (.tuple #[]) w:=by
  intro a c
  cases a <;> simp [Builtin.clear_,hts,run_underlying ht]
 have hex:∀ w2,(Builtin.clear_ ts o.type #[σ x']).run P w = .ok (.tuple #[]) w2 → (execOp σ o).run P w = .ok (.value (.tuple #[])) w2:=fun w2 h => by
  simp [execOp,ho,resolve,invoke,builtin,h]
 simp only [res] at h
 split at h
 ·rename_i e1
  simp only [Option.some.injEq,Prod.mk.injEq] at h
  obtain ⟨rfl,rfl⟩:=h
  rw [e1] at k1
  generalize hc:σ x' = c at k1 hex
  cases k1 with
  | fs _ a n cap kk vs hn =>
   subst hn
   exact Qg S (hex _ (hnil _ _)) (.s _ rfl)
 ·rename_i e1
  simp only [Option.some.injEq,Prod.mk.injEq] at h
  obtain ⟨rfl,rfl⟩:=h
  rw [e1] at k1
  have hc:=k1.s_inv
  rw [hc] at hex
  exact Qg S (hex _ (hnil _ _)) (.s _ rfl)
 ·rename_i i ver off len e1
  rw [e1] at k1
  split at h
  ·rename_i k' vv xs hrow
   split at h
   case isFalse => cases h
   rename_i hcond
   obtain ⟨rfl,rfl,hle,hk0⟩:=hcond
   cases hm:mkPV g (z.map .s) with
   | none => rw [hm] at h;cases h
   | some e =>
    rw [hm] at h
    simp only [Option.bind_some] at h
    split at h
    case isFalse => cases h
    rename_i hel
    obtain ⟨hel,helo⟩:=hel
    simp only [Option.some.injEq,Prod.mk.injEq] at h
    obtain ⟨rfl,rfl⟩:=h
    have hec:e.cells = z.map .s:=YE hm (by simp)
    obtain ⟨base,cap,c1,hx',hcap,hm2⟩:=k1.os_live hrow
    by_cases h0:len = 0
    ·subst h0
     have hM:M.set i (.row true k' vv (setRange xs off (List.replicate 0 e))) = M:=by
      have:setRange xs off [] = xs:=by unfold Nac.setRange;simp
      rw [List.replicate_zero,this]
      obtain ⟨hlt,hget⟩:=List.getElem?_eq_some_iff.1 hrow
      rw [← hget];exact List.set_getElem_self hlt
     rw [hM]
     rw [c1] at hex
     exact Qg S (hex _ (hnil _ _)) (.s _ rfl)
    ·obtain ⟨b,q,cc,el',hL,rfl,hb,hsz⟩:=hm2 (by omega)
     obtain ⟨hk1,c',el'',vs,g1,g2,g3,g4⟩:=Vo S hrow hL
     have hus:(Builtin.zeroCells zv.cells len).size = len * k':=by rw [size_zeroCells,hzs]
     have hrel:LRel M L w ((List.replicate len e).flatMap PV.cells) (Builtin.zeroCells zv.cells len).toList:=Qj0 hec hzs hz2 hz3 hzk hel hk0 len
     have hone:∀ u ∈ (Builtin.zeroCells zv.cells len).toList,u.oneCell' = true:=by
      intro u hu
      refine hrel.one ?_ u hu
      rw [List.all_eq_true]
      intro y hy
      obtain ⟨e',he',hy⟩:=List.mem_flatMap.1 hy
      rw [List.eq_of_mem_replicate he'] at hy
      exact List.all_eq_true.1 helo y hy
     have hsl:(setRange xs off (List.replicate len e)).length = xs.length:=V9 (by simp;omega)
     have hoffk:(off + len) * k' ≤ xs.length * k':=Nat.mul_le_mul_right _ hle
     rw [Nat.add_mul] at hoffk
     have hkl:0 < len * k':=Nat.mul_pos (by omega) (by omega)
     obtain ⟨w',h1,E,S'⟩:=Qai S hrow hL (P:=P) (xs':=setRange xs off (List.replicate len e)) hsl (fun y hy => by
       unfold Nac.setRange at hy
       rcases List.mem_append.1 hy with hy|hy
       ·rcases List.mem_append.1 hy with hy|hy
        ·exact hk1 y (List.mem_of_mem_take hy)
        ·rw [List.eq_of_mem_replicate hy];exact hel
       ·exact hk1 y (List.mem_of_mem_drop hy)) hone (by intro hh;have:=congrArg List.length hh;simp [hus] at this;omega) (p:=off * k') (by simp [hus];omega) hrel
       (JT hk1 (fun y hy => by rw [List.eq_of_mem_replicate hy];exact hel))
     refine ⟨_,w',_,.inl (hex w' ?_),E,S',.s _ rfl⟩
     rw [c1]
     obtain ⟨m,rfl⟩:∃ m,len = m + 1:=⟨len - 1,by omega⟩
     simp [Builtin.clear_,hts,run_underlying ht,hzero,h1]
  ·cases h
 ·cases h
end
end Go.Nac
namespace Go.Nac
variable [Env]
section
variable {R:CCode → Code → Prop} {P:Program} {M:List Blk} {L:Loc} {w:World} {ρ:CX → PV} {σ:Operand → Value}
theorem Qgi {v:Value} {q:Int × Int} (h:pairK v = some q):v = kpv q:=by
 unfold pairK at h
 split at h
 ·cases h;rfl
 ·cases h
def pairT (P:Program) (t:TypeId):Bool :=
 match P.underlying t with
 | some (.array n e) => n == 2 && Qu P e == some 1 && (match P.underlying e with | some (.int _) => true | _ => false) && eqTy P 100 t [.int,.int]
 | _ => false
theorem JK {t:TypeId} (h:pairT P t = true):∃ e k,P.underlying t = some (.array 2 e) ∧ Qu P e = some 1 ∧ P.underlying e = some (.int k) ∧ eqTy P 100 t [.int,.int] = true:=by
 unfold pairT at h
 split at h
 ·rename_i n e hu
  simp only [Bool.and_eq_true,beq_iff_eq] at h
  obtain ⟨⟨⟨rfl,h1⟩,h2⟩,h3⟩:=h
  split at h2
  ·rename_i k hk;exact ⟨e,k,hu,h1,hk,h3⟩
  ·cases h2
 ·cases h
theorem YD {t:TypeId} {b:Bool} {q:Int × Int} (h:pairT P t = true):(Instr.checkKey b 10000 t (kpv q)).run P w = .ok () w:=by
 obtain ⟨e,k,hu,hs,he,_⟩:=JK h
 have hag:aggT P e = some false:=by unfold aggT;rw [he];rfl
 have hp0:(part e #[.int .i64 q.1,.int .i64 q.2] 0).run P w = .ok (.int .i64 q.1) w:=ZG (cs:=#[.int .i64 q.1,.int .i64 q.2]) (off:=0) hag hs (by simp) (by simp)
 have hp1:(part e #[.int .i64 q.1,.int .i64 q.2] 1).run P w = .ok (.int .i64 q.2) w:=ZG (cs:=#[.int .i64 q.1,.int .i64 q.2]) (off:=1) hag hs (by simp) (by simp)
 have hc:∀ n v,(Instr.checkKey b (n + 1) e v).run P w = .ok () w:=fun n v => by simp [Instr.checkKey,run_underlying he]
 have hc':∀ v,(Instr.checkKey b 9999 e v).run P w = .ok () w:=hc 9998
 unfold kpv
 show (Instr.checkKey b (9999 + 1) t (.agg #[.int .i64 q.1,.int .i64 q.2])).run P w = _
 rw [Instr.checkKey]
 simp only [Sem.run_bind,run_underlying hu,Result.andThen_ok]
 simp only [Std.Legacy.Range.forIn_eq_forIn_range',Std.Legacy.Range.size,Nat.sub_zero,Nat.add_sub_cancel,Nat.div_one,List.range'_succ,List.range'_zero,List.forIn_cons,List.forIn_nil,Sem.run_bind,QB hs,Result.andThen_ok,hp0,hp1,hc',Sem.run_pure,Nat.zero_mul,Nat.mul_one,Nat.zero_add]
theorem Qm2 {t:TypeId} {q r:Int × Int} (h:pairT P t = true):(Op.equal t (kpv q) (kpv r)).run P w = .ok (decide (q = r)) w:=by
 obtain ⟨e,k,hu,hs,he,h4⟩:=JK h
 have hag:aggT P t = some true:=by unfold aggT;rw [hu];rfl
 have hv:eqVs [.int,.int] [.int .i64 q.1,.int .i64 q.2] [.int .i64 r.1,.int .i64 r.2] = some (decide (q = r)):=by
  have:(decide (q = r)) = (q.1 == r.1 && q.2 == r.2):=by
   rw [Bool.eq_iff_iff];simp [Prod.ext_iff]
  rw [this]
  simp [eqVs,eqSK]
 exact JC 100 t [.int,.int] [.int .i64 q.1,.int .i64 q.2] [.int .i64 r.1,.int .i64 r.2] _ true 10000 w h4 hag hv (by decide)
theorem Qdb {t:TypeId} {q:Int × Int} (h:pairT P t = true):∀ (l:List MapEntry) (i:Nat),keys2 (l.map fun e => (e.key,e.val)) = true →
  ∃ r,(Instr.findAsking t (kpv q) l i).run P w = .ok r w ∧ r.map (·.2) = find2 q (l.map fun e => (e.key,e.val)) ∧
   (∀ j v,r = some (j,v) → i ≤ j ∧ ∃ e,l[j - i]? = some e ∧ e.key = kpv q ∧ ∀ u,upd2 q u (l.map fun e => (e.key,e.val)) = (l.map fun e => (e.key,e.val)).set (j - i) (kpv q,u)) ∧
   (r = none → ∀ u,upd2 q u (l.map fun e => (e.key,e.val)) = (l.map fun e => (e.key,e.val)) ++ [(kpv q,u)])
 | [],i,_ => ⟨none,rfl,rfl,by simp,fun _ u => rfl⟩
 | e :: l,i,hk => by
  simp only [List.map_cons,keys2,List.all_cons,Bool.and_eq_true] at hk
  obtain ⟨h1,h2⟩:=hk
  obtain ⟨p,hp⟩:=Option.isSome_iff_exists.1 h1
  have hek:=Qgi hp
  have hs:(Op.equal t (kpv q) e.key).run P w = .ok (decide (q = p)) w:=by rw [hek];exact Qm2 h
  by_cases hqp:q = p
  ·subst hqp
   rw [decide_eq_true rfl] at hs
   refine ⟨some (i,e.val),by simp [Instr.findAsking,hs],by simp [find2,hp],?_,by simp⟩
   intro j v hj
   simp only [Option.some.injEq,Prod.mk.injEq] at hj
   obtain ⟨rfl,rfl⟩:=hj
   exact ⟨Nat.le_refl _,e,by simp,hek,fun u => by simp [upd2,hp]⟩
  ·rw [decide_eq_false hqp] at hs
   have hne:¬ pairK e.key = some q:=by rw [hp];intro hh;exact hqp (Option.some.inj hh).symm
   obtain ⟨r,g1,g2,g3,g4⟩:=Qdb (q:=q) h l (i + 1) h2
   refine ⟨r,by simp [Instr.findAsking,hs,g1],by simp [find2,hne,g2],?_,?_⟩
   ·intro j v hj
    obtain ⟨hle,e',h3,h4,h5⟩:=g3 j v hj
    have hji:j - i = (j - (i + 1)) + 1:=by omega
    refine ⟨by omega,e',by rw [hji];simpa using h3,h4,fun u => ?_⟩
    simp [upd2,hne,hji,h5 u]
   ·intro hr u
    simp [upd2,hne,g4 hr u]
theorem Qd3 {t:TypeId} {q:Int × Int} (h:pairT P t = true) (l:List MapEntry) (hk:keys2 (l.map fun e => (e.key,e.val)) = true) :
  ∃ r,(Instr.findKey t (kpv q) l).run P w = .ok r w ∧ r.map (·.2) = find2 q (l.map fun e => (e.key,e.val)) ∧
   (∀ j v,r = some (j,v) → ∃ e,l[j]? = some e ∧ e.key = kpv q ∧ ∀ u,upd2 q u (l.map fun e => (e.key,e.val)) = (l.map fun e => (e.key,e.val)).set j (kpv q,u)) ∧
   (r = none → ∀ u,upd2 q u (l.map fun e => (e.key,e.val)) = (l.map fun e => (e.key,e.val)) ++ [(kpv q,u)]):=by
 obtain ⟨e,k,hu,_⟩:=JK h
 obtain ⟨r,g1,g2,g3,g4⟩:=Qdb (w:=w) (q:=q) h l 0 hk
 refine ⟨r,?_,g2,fun j v hj => by simpa using (g3 j v hj).2,g4⟩
 cases l with
 | nil => simp only [Instr.findAsking,Sem.run_pure] at g1;cases g1;simp [Instr.findKey,run_underlying hu,Instr.findNow]
 | cons x l =>
  have:Instr.findNow (.array 2 e) (kpv q) (x :: l) 0 = none:=rfl
  simp [Instr.findKey,run_underlying hu,this,g1]
theorem QdI {x y:PV} {a b:Int} {c:Value} (h:VRel M L w (.agg [.s (.int .i64 a),.s (.int .i64 b)]) c):c = kpv (a,b):=by
 cases h with
 | agg _ vs h =>
  obtain ⟨vs⟩:=vs
  cases h with|cons _ v _ vs h hs =>
  cases hs with|cons _ v' _ vs' h' hs' =>
  cases hs'
  rw [h.s_inv,h'.s_inv];rfl
theorem QlD (S:Sim R M L w) (H:Fit M L w ρ σ) {o:Oper} {z:Value} {ok:Bool} {t kt et:TypeId} {m key:CX} {m' key':Operand} (ho:o.op = .lookup t m' key' ok) (h1:okX m m' = true) (h2:okX key key' = true)
  (hu:P.underlying t = some (.map kt et)) (hk:pairT P kt = true) (hz:okZ P et none [z] = true)
  {v:PV} {M':List Blk} (h:res M ρ (.look2 z ok m key) = some (v,M')):Good R P (execOp σ o) M L w v M':=by
 have k1:=H m m' h1;have k2:=H key key' h2
 obtain ⟨zv,hzv,hz2,hz3,_,_⟩:=Vy hz
 have hzz:zv = z ∧ aggV z = false:=by
  have:=hz3 z (by simp)
  unfold okZ at hz
  rw [hzv] at hz
  simp only at hz
  obtain ⟨h,_⟩:=YL hz
  simp at h
  exact ⟨h.symm,this⟩
 obtain ⟨rfl,hzagg⟩:=hzz
 simp only [res] at h
 split at h
 ·rename_i i a b e1 e2
  rw [e1] at k1;rw [e2] at k2
  have c2:=QdI (x:=.top) (y:=.top) k2
  split at h
  ·rename_i es hi
   split at h
   case isFalse => cases h
   rename_i hkl
   generalize hcm:σ m' = c at k1
   cases k1 with
   | om' _ it' c' hi' => rw [hi] at hi';cases hi'
   | om _ es' bb off hi' hL =>
    rw [hi] at hi';cases hi'
    obtain ⟨b',o',ents,clock,g1,g2,g3,g4⟩:=S.mem i _ hi
    rw [hL] at g1;cases g1
    obtain ⟨r,hfk,f2,_,_⟩:=Qd3 (w:=w) (q:=(a,b)) hk ents.toList (by rw [g3];exact hkl)
    rw [g3] at f2
    have hlook:(Instr.lookup t (.map (some bb)) (kpv (a,b)) ok).run P w = .ok (if ok then .tuple #[((find2 (a,b) es).getD zv),.bool (find2 (a,b) es).isSome] else (find2 (a,b) es).getD zv) w:=by
     cases r with
     | none =>
      have hf:find2 (a,b) es = none:=by simpa using f2.symm
      simp [Instr.lookup,run_underlying hu,getObj,Sem.run,g2,YD hk,hfk,VY hzv,hf]
      try (cases ok <;> rfl)
     | some p =>
      have hf:find2 (a,b) es = some p.2:=by simpa using f2.symm
      simp [Instr.lookup,run_underlying hu,getObj,Sem.run,g2,YD hk,hfk,hf]
      try (cases ok <;> rfl)
    have hagg:aggV ((find2 (a,b) es).getD zv) = false:=by
     have:∀ (l:List (Value × Value)),(∀ e ∈ l,aggV e.2 = false) → aggV ((find2 (a,b) l).getD zv) = false:=by
      intro l hl
      induction l with
      | nil => exact hzagg
      | cons e l ih =>
       unfold find2
       split
       ·exact hl e (by simp)
       ·exact ih fun x hx => hl x (by simp [hx])
     exact this es g4.1
    simp only [Option.some.injEq,Prod.mk.injEq] at h
    obtain ⟨rfl,rfl⟩:=h
    refine Qg S (by simp only [execOp,ho,hcm,c2,Sem.run_bind,hlook];rfl) ?_
    cases ok
    ·exact .s _ hagg
    ·exact .tup _ _ (.cons _ _ _ _ (.s _ hagg) (.cons _ _ _ _ (.s _ rfl) .nil))
  ·cases h
 ·cases h
theorem QdD {q:Int × Int} {u:Value} (hu:aggV u = false):∀ {es:List (Value × Value)},(∀ e ∈ es,aggV e.2 = false) → ∀ e ∈ upd2 q u es,aggV e.2 = false
 | [],_,e,he => by simp [upd2] at he;subst he;exact hu
 | (a,v) :: r,h,e,he => by
  unfold upd2 at he
  split at he
  ·rcases List.mem_cons.1 he with rfl|he
   ·exact hu
   ·exact h e (by simp [he])
  ·rcases List.mem_cons.1 he with rfl|he
   ·exact h (a,v) (by simp)
   ·exact QdD hu (fun x hx => h x (by simp [hx])) e he
theorem Qje (q:Int × Int):Instr.sameBits 10000 (kpv q) (kpv q) = true:=by
 unfold kpv
 simp [Instr.sameBits]
theorem Qfn (S:Sim R M L w) (H:Fit M L w ρ σ) {o:Oper} {t kt et:TypeId} {m key x:CX} {m' key' x':Operand} (ho:o.op = .mapUpdate t m' key' x' ∨ o.op = .insert t m' key' x') (h1:okX m m' = true) (h2:okX key key' = true) (h3:okX x x' = true)
  (hu:P.underlying t = some (.map kt et)) (hk:pairT P kt = true)
  {v:PV} {M':List Blk} (h:res M ρ (.mupd2 m key x) = some (v,M')):Good R P (execOp σ o) M L w v M':=by
 have k1:=H m m' h1;have k2:=H key key' h2;have k3:=H x x' h3
 simp only [res] at h
 split at h
 ·rename_i i a b u e1 e2 e3
  rw [e1] at k1;rw [e2] at k2;rw [e3] at k3
  have c2:=QdI (x:=.top) (y:=.top) k2;have c3:=k3.s_inv
  have hua:aggV u = false:=by cases k3;assumption
  split at h
  ·rename_i es hi
   split at h
   case isFalse => cases h
   rename_i hkl
   simp only [Option.some.injEq,Prod.mk.injEq] at h
   obtain ⟨rfl,rfl⟩:=h
   generalize hcm:σ m' = c at k1
   cases k1 with
   | om' _ it' c' hi' => rw [hi] at hi';cases hi'
   | om _ es' bb off hi' hL =>
    rw [hi] at hi';cases hi'
    obtain ⟨b',o',ents,clock,g1,g2,g3,g4⟩:=S.mem i _ hi
    rw [hL] at g1;cases g1
    obtain ⟨r,hfk,f2,f3,f4⟩:=Qd3 (w:=w) (q:=(a,b)) hk ents.toList (by rw [g3];exact hkl)
    rw [g3] at f3 f4
    have hbl:bb < w.heap.size:=(Array.getElem?_eq_some_iff.1 g2).1
    have hupd:∃ ents' clock',(Instr.mapUpdate t (.map (some bb)) (kpv (a,b)) u).run P w = .ok () { w with heap:=w.heap.setIfInBounds bb (.map ents' clock') } ∧ ents'.toList.map (fun e => (e.key,e.val)) = upd2 (a,b) u es ∧ V0 ents' clock':=by
     cases r with
     | none =>
      refine ⟨ents.push { key:=kpv (a,b),val:=u,born:=clock },clock + 1,?_,?_,V0.push g4.2 _ _⟩
      ·simp [Instr.mapUpdate,run_underlying hu,getObj,setObj,Sem.run,g2,YD hk,hfk]
      ·rw [f4 rfl u];simp [g3]
     | some p =>
      obtain ⟨j,pv⟩:=p
      obtain ⟨e,he,hs,hup⟩:=f3 j pv rfl
      have hej:ents[j]? = some e:=by simpa using he
      have hkeep:(Instr.keyThatStays e.key (kpv (a,b))).run P w = .ok (kpv (a,b)) w:=by rw [hs];simp [Instr.keyThatStays,Qje]
      refine ⟨ents.modify j fun e => { e with key:=kpv (a,b),val:=u },clock,?_,?_,V0.modify g4.2 _ _ fun _ => rfl⟩
      ·simp [Instr.mapUpdate,run_underlying hu,getObj,setObj,Sem.run,g2,YD hk,hfk,hej,hkeep]
      ·rw [hup u,Array.toList_modify,Qb2 he,g3]
    obtain ⟨ents',clock',hrun,hents,hborn⟩:=hupd
    obtain ⟨E,S'⟩:=change S hi (blk':=.map (upd2 (a,b) u es)) L (fun _ _ => rfl) (w':={ w with heap:=w.heap.setIfInBounds bb (.map ents' clock') }) ⟨rfl,rfl,rfl,(by first|exact Nat.le_refl _|exact Nat.le_succ _|simp)⟩ (.inl rfl) (by simp) (fun b' hb' hne => by
      have:bb ≠ b':=hne (bb,off) rfl hL
      simp [Array.getElem?_setIfInBounds_ne this]) (fun p hp => .inl ⟨p,hp,rfl⟩) rfl (fun E => by
      refine ⟨bb,off,ents',clock',hL,by simp [hbl],hents,QdD hua g4.1,hborn⟩)
    refine ⟨undef,_,L,.inr ⟨?_,rfl⟩,E,S',.s _ rfl⟩
    rcases ho with ho|ho <;> simp only [execOp,ho,hcm,c2,c3,Sem.run_bind,hrun,Result.andThen_ok,Sem.run_pure]
  ·cases h
 ·cases h
end
end Go.Nac
namespace Go.Nac
open Go.ChangeMaps (setBlock)
variable [Env]
section
variable {P:Program} {R:CCode → Code → Prop} {M:List Blk} {L:Loc} {w:World} {ρ:CX → PV} {σ:Operand → Value}
theorem Qkz (ents:Array MapEntry):leftOf ents #[] = ents:=by
 unfold leftOf
 exact Array.filter_eq_self.2 (fun x _ => by simp)
theorem QnK (S:Sim R M L w) (H:Fit M L w ρ σ) {o:Oper} {t kt et:TypeId} {x:CX} {x':Operand} (ho:o.op = .range t x') (hx:okX x x' = true) (ht:P.underlying t = some (.map kt et))
  {v:PV} {M':List Blk} (h:res M ρ (.mrng x) = some (v,M')):Good R P (execOp σ o) M L w v M':=by
 have k1:=H x x' hx
 simp only [res] at h
 split at h
 ·rename_i i e1
  rw [e1] at k1
  split at h
  ·rename_i es hi
   split at h
   case isFalse => cases h
   rename_i hkeys
   simp only [Option.some.injEq,Prod.mk.injEq] at h
   obtain ⟨rfl,rfl⟩:=h
   generalize hcm:σ x' = c at k1
   cases k1 with
   | om' _ it' c' hi' => rw [hi] at hi';cases hi'
   | om _ es' b off hi' hL =>
    rw [hi] at hi';cases hi'
    obtain ⟨b',o',ents,clock,g1,g2,g3,g4,g5,g6⟩:=S.mem i _ hi
    rw [hL] at g1;cases g1
    have hbl:b < w.heap.size:=(Array.getElem?_eq_some_iff.1 g2).1
    have hlt:i < M.length:=(List.getElem?_eq_some_iff.1 hi).1
    have hrun:(execOp σ o).run P w = .ok (.value (.pointer (some ⟨w.heap.size,0,none⟩))) (w.alloc (.mapIter (some b) clock #[] clock)):=by
     simp only [execOp,ho,hcm,Sem.run_bind,run_range_map w t kt et b ents clock ht g2,Result.andThen_ok,Sem.run_pure]
    have hold:∀ r,r < w.heap.size → (w.alloc (.mapIter (some b) clock #[] clock)).heap[r]? = w.heap[r]?:=fun r hr => by show (w.heap.push _)[r]? = _;rw [Array.getElem?_push_lt hr,Array.getElem?_eq_getElem hr]
    have hno:¬ Owned (M.set i (.siter (.mp es none))) (L.upd i (some (w.heap.size,0))) b:=by
     rintro ⟨j,bl,p,h1,h2,h3,h4⟩
     rcases Z8 hlt h1 with ⟨rfl,rfl⟩|⟨hne,h1⟩
     ·rw [Loc.upd_self] at h3;cases h3;simp at h4;omega
     ·rw [Loc.upd_ne _ _ hne] at h3
      exact S.inj j i bl _ p (b,off) h1 hi h2 hne h3 hL h4
    obtain ⟨E,S'⟩:=change S hi (blk':=.siter (.mp es none)) (L.upd i (some (w.heap.size,0))) (fun j hj => Loc.upd_ne _ _ hj) (w':=w.alloc (.mapIter (some b) clock #[] clock)) ⟨rfl,rfl,rfl,Nat.le_refl _⟩ (.inl rfl) (by show _ ≤ (w.heap.push _).size;simp)
     (fun b' hb' _ => hold b' hb') (fun p hp => .inr (by rw [Loc.upd_self] at hp;cases hp;exact Nat.le_refl _)) trivial (fun E =>
      ⟨w.heap.size,0,Loc.upd_self _ _ _,b,clock,#[],clock,ents,clock,heap_alloc_new w _,Nat.lt_of_lt_of_le hbl E.size,hno,(hold b hbl).trans g2,
       ⟨by rw [Qkz];exact g3,g5,Nat.le_refl _,Nat.le_refl _,g6,fun e he => (by
        have hm:(e.key,e.val) ∈ es:=by rw [← g3];exact List.mem_map.2 ⟨e,he,rfl⟩
        refine ⟨?_,g4 _ hm⟩
        have:=List.all_eq_true.1 hkeys _ hm
        cases hk:e.key <;> rw [hk] at this <;> first|rfl|(cases this)),fun p hp => by cases hp⟩⟩)
    exact ⟨_,_,_,.inl hrun,E,S',.oi i _ w.heap.size 0 (List.getElem?_set_self hlt) (Loc.upd_self _ _ _)⟩
  ·cases h
 ·cases h
theorem Qna (S:Sim R M L w) (H:Fit M L w ρ σ) {o:Oper} {x:CX} {x':Operand} (ho:o.op = .entry x') (hx:okX x x' = true)
  {v:PV} {M':List Blk} (h:res M ρ (.ment x) = some (v,M')):Good R P (execOp σ o) M L w v M':=by
 have k1:=H x x' hx
 simp only [res] at h
 split at h
 ·rename_i i e1
  rw [e1] at k1
  split at h
  ·rename_i left p hi
   simp only [Option.some.injEq,Prod.mk.injEq] at h
   obtain ⟨rfl,rfl⟩:=h
   generalize hcm:σ x' = c at k1
   cases k1 with
   | oi _ it' b off hi' hL =>
    rw [hi] at hi';cases hi'
    obtain ⟨b',o',g1,bm,since,seen,c0,ents,clock,g2,g3,g4,g5,g6⟩:=S.mem i _ hi
    rw [hL] at g1;cases g1
    obtain ⟨e,he,s,hs,hp,hc⟩:=g6.cur_ p rfl
    subst hs;subst hp;subst hc
    have hrun:(execOp σ o).run P w = .ok (.value (.tuple #[e.key,e.val])) w:=by
     simp only [execOp,ho,hcm,Sem.run_bind,run_entry_at w b bm since s ents c0 e g2 g5 he g6.dup,Result.andThen_ok,Sem.run_pure]
    obtain ⟨o1,o2⟩:=g6.one e he
    exact ⟨_,_,L,.inl hrun,Evo.refl M L w,S,.tup _ _ (.cons _ _ _ _ (.s _ o1) (.cons _ _ _ _ (.s _ o2) .nil))⟩
  ·cases h
 ·cases h
theorem Qhu {ents:Array MapEntry} {seen:Array Nat} (hn:(ents.toList.map (·.born)).Nodup) {e:MapEntry} (he:e ∈ (leftOf ents seen).toList) :
  ∃ A B,(leftOf ents seen).toList = A ++ e :: B ∧ (leftOf ents (seen.push e.born)).toList = A ++ B:=by
 obtain ⟨A,B,h⟩:=List.append_of_mem he
 refine ⟨A,B,h,?_⟩
 have e1:(leftOf ents (seen.push e.born)).toList = (leftOf ents seen).toList.filter fun x => !(x.born == e.born):=by
  unfold leftOf
  rw [Array.toList_filter,Array.toList_filter,List.filter_filter]
  congr 1
  funext x
  rw [contains_push]
  cases seen.contains x.born <;> cases x.born == e.born <;> rfl
 have hsub:((leftOf ents seen).toList.map (·.born)).Nodup:=by
  refine List.Nodup.sublist (List.Sublist.map _ ?_) hn
  unfold leftOf
  rw [Array.toList_filter]
  exact List.filter_sublist
 rw [h] at hsub
 rw [e1,h]
 simp only [List.map_append,List.map_cons,List.nodup_append,List.nodup_cons,List.mem_cons] at hsub
 obtain ⟨_,⟨h3,_⟩,h4⟩:=hsub
 rw [List.filter_append,List.filter_cons]
 have hA:A.filter (fun x => !(x.born == e.born)) = A:=List.filter_eq_self.2 fun x hx => by
  have:=h4 x.born (List.mem_map.2 ⟨x,hx,rfl⟩) e.born (.inl rfl)
  simp [this]
 have hB:B.filter (fun x => !(x.born == e.born)) = B:=List.filter_eq_self.2 fun x hx => by
  have:x.born ≠ e.born:=fun h => h3 (h ▸ List.mem_map.2 ⟨x,hx,rfl⟩)
  simp [this]
 rw [hA,hB]
 simp
theorem Qio (S:Sim R M L w) {i:Nat} {left:List (Value × Value)} {cur:Option (Value × Value)} (hi:M[i]? = some (.siter (.mp left cur))) {c:Value} (hv:VRel M L w (.oi i) c) (ty:TypeId) :
  (left = [] ∧ (Instr.next c false ty).run P w = .ok (.tuple #[.bool false]) w) ∨
  ∃ a e b w',left = a ++ e :: b ∧ (Instr.next c false ty).run P w = .ok (.tuple #[.bool true,e.1,e.2]) w' ∧ aggV e.1 = false ∧ aggV e.2 = false ∧
   Evo M L w (M.set i (.siter (.mp (a ++ b) (some e)))) L w' ∧ Sim R (M.set i (.siter (.mp (a ++ b) (some e)))) L w':=by
 cases hv with
 | oi _ it' b off hi' hL =>
  rw [hi] at hi';cases hi'
  obtain ⟨b',o',g1,bm,since,seen,c0,ents,clock,g2,g3,g4,g5,g6⟩:=S.mem i _ hi
  rw [hL] at g1;cases g1
  have hbl:b < w.heap.size:=(Array.getElem?_eq_some_iff.1 g2).1
  have hlt:i < M.length:=(List.getElem?_eq_some_iff.1 hi).1
  rcases run_next_at (P:=P) w ty b bm since c0 seen ents clock g2 g5 g6.old g6.since_ with ⟨h1,h2⟩|⟨e,he,w1,hw1,h2⟩
  ·left
   refine ⟨?_,h2⟩
   rw [← g6.left_,Array.eq_empty_of_size_eq_zero h1];rfl
  ·right
   obtain ⟨A,B,hA,hB⟩:=Qhu g6.dup he
   have hm:=(mem_left he).1
   obtain ⟨o1,o2⟩:=g6.one e hm
   have hne:b ≠ bm:=fun h => g4 (h ▸ ⟨i,_,(b,off),hi,rfl,hL,rfl⟩)
   have hw:Same w (setBlock w1 b (.mapIter (some bm) since (seen.push e.born) clock)):=by
    rcases hw1 with rfl|rfl
    ·exact ⟨rfl,rfl,rfl,Nat.le_refl _⟩
    ·exact ⟨rfl,rfl,rfl,Nat.le_succ _⟩
   have hh:(setBlock w1 b (.mapIter (some bm) since (seen.push e.born) clock)).heap = w.heap.setIfInBounds b (.mapIter (some bm) since (seen.push e.born) clock):=by
    rcases hw1 with rfl|rfl <;> rfl
   have hat:(setBlock w1 b (.mapIter (some bm) since (seen.push e.born) clock)).heap[b]? = some (.mapIter (some bm) since (seen.push e.born) clock):=by rw [hh];simp [hbl]
   have hot:∀ r,b ≠ r → (setBlock w1 b (.mapIter (some bm) since (seen.push e.born) clock)).heap[r]? = w.heap[r]?:=fun r hr => by rw [hh];simp [Array.getElem?_setIfInBounds_ne hr]
   refine ⟨A.map fun e => (e.key,e.val),(e.key,e.val),B.map fun e => (e.key,e.val),_,by rw [← g6.left_,hA];simp,h2,o1,o2,?_⟩
   exact change S hi L (fun _ _ => rfl) hw (.inl rfl) (by rw [hh];simp) (fun b' hb' hne => hot b' (hne (b,off) rfl hL)) (fun p hp => .inl ⟨p,hp,rfl⟩) rfl (fun E => by
    obtain ⟨f1,f2⟩:=E.frame bm g3 g4
    refine ⟨b,off,hL,bm,since,seen.push e.born,clock,ents,clock,hat,Nat.lt_of_lt_of_le g3 E.size,f2,f1.trans g5,⟨?_,g6.old,g6.clk,g6.clk,g6.dup,g6.one,fun p hp => ?_⟩⟩
    ·rw [hB];simp
    ·cases hp
     exact ⟨e,hm,seen,rfl,rfl,rfl⟩)
end
end Go.Nac
namespace Go.Nac
variable [Env]
def Qc0:Operand → Bool
 | .const (.slice none 0 0) => true
 | _ => false
def elemT (P:Program) (t:TypeId):Option TypeId :=
 match P.underlying t with
 | some (.slice e) => some e
 | _ => none
def arrT (P:Program) (t:TypeId):Option (Nat × TypeId) :=
 match P.underlying t with
 | some (.array n e) => some (n,e)
 | _ => none
def Qdv (P:Program) (t:TypeId):Bool:=match P.underlying t with|some (.map _ _) => true|_ => false
def Yj (P:Program) (t:TypeId):Bool:=match P.underlying t with|some .string => true|_ => false
def Qca (P:Program) (t:TypeId):Bool:=match P.underlying t with|some .bool => true|_ => false
def intT (P:Program) (t:TypeId):Option IntKind:=match P.underlying t with|some (.int k) => some k|_ => none
def fltT (P:Program) (t:TypeId):Option FloatKind:=match P.underlying t with|some (.float k) => some k|_ => none
def mapT (P:Program) (t:TypeId):Option (TypeId × TypeId):=match P.underlying t with|some (.map k e) => some (k,e)|_ => none
def Qaz (P:Program) (t:TypeId):Bool:=match P.underlying t with|some (.int _) => false|some _ => true|none => false
def Qb0 (P:Program) (t:TypeId) (f:Nat):Option Field :=
 match P.underlying t with
 | some (.struct fs) => fs[f]?
 | _ => none
section
variable {P:Program} {t:TypeId}
theorem Q3 {e:TypeId} (h:elemT P t = some e):P.underlying t = some (.slice e):=by
 unfold elemT at h;split at h
 ·rename_i hu;rw [hu,Option.some.inj h]
 ·cases h
theorem Yv {n:Nat} {e:TypeId} (h:arrT P t = some (n,e)):P.underlying t = some (.array n e):=by
 unfold arrT at h;split at h
 ·rename_i hu;cases h;exact hu
 ·cases h
theorem QeO (h:Qdv P t = true):∃ k e,P.underlying t = some (.map k e):=by
 unfold Qdv at h;split at h
 ·exact ⟨_,_,by assumption⟩
 ·cases h
theorem V3 (h:Yj P t = true):P.underlying t = some .string:=by
 unfold Yj at h;split at h
 ·assumption
 ·cases h
theorem QdP (h:Qca P t = true):P.underlying t = some .bool:=by
 unfold Qca at h;split at h
 ·assumption
 ·cases h
theorem Y6 {k:IntKind} (h:intT P t = some k):P.underlying t = some (.int k):=by
 unfold intT at h;split at h
 ·rename_i hu;cases h;exact hu
 ·cases h
theorem Qcl {k:FloatKind} (h:fltT P t = some k):P.underlying t = some (.float k):=by
 unfold fltT at h;split at h
 ·rename_i hu;cases h;exact hu
 ·cases h
theorem ZF {k e:TypeId} (h:mapT P t = some (k,e)):P.underlying t = some (.map k e):=by
 unfold mapT at h;split at h
 ·rename_i hu;cases h;exact hu
 ·cases h
theorem JY (h:Qaz P t = true):∃ d,P.underlying t = some d ∧ ∀ k,d ≠ .int k:=by
 unfold Qaz at h;split at h
 ·cases h
 ·rename_i d hn hu;exact ⟨d,hu,fun k e => hn k (by rw [e])⟩
 ·cases h
theorem QaF {f:Nat} {fd:Field} (h:Qb0 P t f = some fd):∃ fs,P.underlying t = some (.struct fs) ∧ fs[f]? = some fd:=by
 unfold Qb0 at h;split at h
 ·rename_i fs hu;exact ⟨fs,hu,h⟩
 ·cases h
def Qdk:Operand → Bool
 | .const .nilIface => true
 | _ => false
theorem QeV {y:Operand} (h:Qdk y = true):y = .const .nilIface:=by
 unfold Qdk at h;split at h
 ·rfl
 ·cases h
def Qdw (P:Program) (t:TypeId):Bool:=match P.underlying t with|some (.interface _) => true|_ => false
theorem QeU {P:Program} {t:TypeId} (h:Qdw P t = true):∃ ms,P.underlying t = some (.interface ms):=by
 unfold Qdw at h;split at h
 ·rename_i ms hu;exact ⟨ms,hu⟩
 ·cases h
def Qal (P:Program) (t:TypeId):Bool:=match P.underlying t with|some (.slice e) => (match P.underlying e with|some (.int .u8) => true|_ => false)|_ => false
theorem Ji {P:Program} {t:TypeId} (h:Qal P t = true):∃ e,P.underlying t = some (.slice e) ∧ P.underlying e = some (.int .u8):=by
 unfold Qal at h;split at h
 ·rename_i e hu
  split at h
  ·rename_i he;exact ⟨e,hu,he⟩
  ·cases h
 ·cases h
theorem QaJ {y:Operand} (h:Qc0 y = true):y = .const (.slice none 0 0):=by
 unfold Qc0 at h;split at h
 ·rfl
 ·cases h
end
def Qfs (P:Program) (z:List Value) (parts:List (Nat × Nat × CX)) (t:TypeId) (parts':Array (Nat × Operand)):Bool :=
 okZ P t (some z.length) z &&
 match P.underlying t with
 | some (.struct fs) => (match V6 P fs.toList with | some pl => Zp (fun (i:Nat) => pl[i]?) parts parts'.toList | none => false)
 | some (.array _ el) => (match Qu P el with | some k => Zp (fun i => some (i * k,k)) parts parts'.toList | none => false)
 | _ => false
def args1 (c:Call):Option Operand:=match c.args with|⟨[x]⟩ => some x|_ => none
def args2 (c:Call):Option (Operand × Operand):=match c.args with|⟨[x,y]⟩ => some (x,y)|_ => none
def sOp:CX → Operand
 | .t m => .tmp m
 | _ => .const (.tuple #[])
def ptrT (P:Program) (t:TypeId):Option TypeId:=match P.underlying t with|some (.pointer e) => some e|_ => none
theorem QhV {P:Program} {t e:TypeId} (h:ptrT P t = some e):P.underlying t = some (.pointer e):=by
 unfold ptrT at h;split at h
 ·rename_i hu;rw [hu,Option.some.inj h]
 ·cases h
def tys2:Array TypeId → Option (TypeId × TypeId)
 | ⟨[a,b]⟩ => some (a,b)
 | _ => none
theorem Qil {ts:Array TypeId} {a b:TypeId} (h:tys2 ts = some (a,b)):ts = #[a,b]:=by
 unfold tys2 at h;split at h
 ·cases h;rfl
 ·cases h
def YK (P:Program) (c:COp) (k:Call):Bool :=
 match c,k.callee with
 | .len x,.builtin .len => (match args1 k,k.argTypes[0]? with | some y,some t => okX x y && (elemT P t).isSome | _,_ => false)
 | .lens x,.builtin .len => (match args1 k,k.argTypes[0]? with | some y,some t => okX x y && Yj P t | _,_ => false)
 | .append n bytes x y,.builtin .append =>
  (match args2 k,k.argTypes[0]?,k.argTypes[1]? with
  | some (x',y'),some t,some t1 => okX x x' && okX y y' && Qaz P t1 &&
    (match elemT P t with
    | some el => Qu P el == some n && (P.info? el).map (·.bytes) == some bytes && (match (P.info? el).bind (·.zero) with | some v => okVs v.cells.toList v.cells.toList && v.cells.size == n && (aggV v || n == 1) | none => false)
    | none => false)
  | _,_,_ => false)
 | .copy n x y,.builtin .copy =>
  (match args2 k,k.argTypes[0]? with
  | some (x',y'),some t => okX x x' && okX y y' && (match elemT P t with | some el => Qu P el == some n | none => false)
  | _,_ => false)
 | .capn x,.builtin .cap => (match args1 k,k.argTypes[0]? with | some y,some t => okX x y && (elemT P t).isSome | _,_ => false)
 | .appz n g z bytes x y,.builtin .append =>
  (match args2 k,k.argTypes[0]?,k.argTypes[1]? with
  | some (x',y'),some t,some t1 => okX x x' && okX y y' && (intT P t1).isSome &&
    (match elemT P t with
    | some el => Qu P el == some n && (P.info? el).map (·.bytes) == some bytes && okZ P el g z
    | none => false)
  | _,_,_ => false)
 | .tapp e bytes x y,.builtin .append =>
  (match args2 k,k.argTypes[0]?,k.argTypes[1]? with
  | some (x',y'),some t,some t1 => okX x x' && okX y y' && Qaz P t1 &&
    (match elemT P t with
    | some el => el == e && Qu P el == some 1 && (P.info? el).map (·.bytes) == some bytes && (match (P.info? el).bind (·.zero) with | some v => okZ P el none v.cells.toList && v.cells.toList.length == 1 | none => false)
    | none => false)
  | _,_,_ => false)
 | .usd x,.builtin .unsafeSliceData => (match args1 k with | some y => okX x y | none => false)
 | .ustr e p n s,.builtin .unsafeString =>
  (match args2 k,tys2 k.argTypes with
  | some (p',n'),some (pt,it) => okX p p' && okX n n' && okX s (sOp s) && ptrT P pt == some e && P.cellsOf e == 1
  | _,_ => false)
 | .clr n g z x,.builtin .clear =>
  (match args1 k,k.argTypes[0]? with
  | some y,some t => okX x y && (match elemT P t with | some el => okZ P el g z && z.length == n | none => false)
  | _,_ => false)
 | .max x xs,.builtin .max => okXs (x :: xs) k.args.toList
 | .min x xs,.builtin .min => okXs (x :: xs) k.args.toList
 | _,_ => false
def okOp (P:Program) (c:COp) (o:Op):Bool :=
 match o with
 | .move y | .assign y => (match c with | .mov x => okX x y | .onil _ => Qc0 y | _ => false)
 | .pick c' a' b' => (match c with | .pick c a b => okX c c' && okX a a' && okX b b' | _ => false)
 | .alloc t => (match c with | .alloc g z => okZ P t g z | .balloc T z => T == t && okZ P t (some z.length) z | _ => false)
 | .box _ y => (match c with | .box _ _ x => okX x y | _ => false)
 | .build t parts' => (match c with | .build z parts => Qfs P z parts t parts' | _ => false)
 | .buildSlice t n parts => (match c with
  | .bsl _ k xs => n == xs.length && decide (n * k ≤ 2 ^ 24) && okSeq 0 xs parts.toList && (match elemT P t with | some el => Qu P el == some k && ((P.info? el).bind (·.zero)).isSome | none => false)
  | _ => false)
 | .load t y => (match c with | .load g x => okX x y && okG P t g | _ => false)
 | .store t a' v' => (match c with | .store k a v => okX a a' && okX v v' && Qu P t == some k | _ => false)
 | .nilCheck y => (match c with | .nilc x => okX x y | .unty x => okX x y | _ => false)
 | .binOp op' t x' y' _ => (match c with
  | .bin op x y => op == op' && okX x x' && okX y y'
  | .binb op x y => op == op' && okX x x' && okX y y' && Qca P t
  | .sop (.fbin op) [x,y] => op == op' && okX x x' && okX y y'
  | .isnil neg x => op' == (if neg then .neq else .eql) && okX x x' && Qdk y' && Qdw P t
  | .eqs neg lay x y => op' == (if neg then .neq else .eql) && okX x x' && okX y y' && eqTy P 100 t lay && !(P.eqGuardType P.depth t) && aggT P t == some true
  | _ => false)
 | .unOp op' _ y => (match c with | .un op x => op == op' && okX x y | _ => false)
 | .convert s t y => (match c with
  | .conv k x => okX x y && (intT P s).isSome && intT P t == some k
  | .b2s x => okX x y && Qal P s && Yj P t
  | .s2b _ x => okX x y && Yj P s && Qal P t
  | .mark x => okX x y && s == t && Qal P s
  | .sop (.ff d) [x] => okX x y && (P.underlying s).isSome && fltT P t == some d
  | .sop (.fi d) [x] => okX x y && (P.underlying s).isSome && intT P t == some d
  | .sop (.itf d) [x] => okX x y && (P.underlying s).isSome && fltT P t == some d
  | _ => false)
 | .range t y => (match c with | .srng x => okX x y && Yj P t | .mrng x => okX x y && Qdv P t | _ => false)
 | .entry y => (match c with | .ment x => okX x y | _ => false)
 | .next y str => (match c with | .snxt x => okX x y && str | _ => false)
 | .sliceToArrayPointer t y => (match c with | .arrp n x => okX x y && (match arrT P t with | some (m,_) => m == n | none => false) | _ => false)
 | .makeFunc f first cap => (match c with | .mkfn g xs => (match f with | .func f => f == g | _ => false) && first.isEmpty && okXs xs cap.toList | .mkbm g xs => (match f with | .func f => f == g | _ => false) && cap.isEmpty && okXs xs first.toList | _ => false)
 | .makeMap _ r => (match c with | .mkmap => r.isNone | _ => false)
 | .makeSlice t l n => (match c with
  | .mksl k g z bytes len cap => okX len l && okX cap n && (match elemT P t with | some el => Qu P el == some k && (P.info? el).map (·.bytes) == some bytes && okZ P el g z | none => false)
  | _ => false)
 | .slice t y lo' hi' mx => mx.isNone && (match c with
  | .slice k x lo hi => okX x y && okXo lo lo' && okXo hi hi' && (match elemT P t with | some el => Qu P el == some k | none => false)
  | .slstr x lo hi => okX x y && okXo lo lo' && okXo hi hi' && Yj P t
  | .arrsl n x => okX x y && lo'.isNone && hi'.isNone && (match arrT P t with | some (m,el) => m == n && Qu P el == some 1 | none => false)
  | .arrfz n x => okX x y && lo'.isNone && hi'.isNone && (match arrT P t with | some (m,el) => m == n && Qu P el == some 1 | none => false)
  | _ => false)
 | .fieldAddr t y f => (match c with | .faddr off x => okX x y && (match Qb0 P t f with | some fd => fd.offset == off && (match Qu P fd.type with | some n => n != 0 | none => false) | none => false) | _ => false)
 | .field t y f => (match c with | .field off g x => okX x y && (match Qb0 P t f with | some fd => fd.offset == off && okG P fd.type g | none => false) | _ => false)
 | .indexAddr t y i' => (match c with
  | .iaddr k x i => okX x y && okX i i' && (match elemT P t with | some el => Qu P el == some k | none => false)
  | .iaddra n k x i => okX x y && okX i i' && (match arrT P t with | some (m,el) => m == n && Qu P el == some k | none => false)
  | _ => false)
 | .index t y i' => (match c with
  | .idxs x i => okX x y && okX i i' && Yj P t
  | .idxa n k g x i => okX x y && okX i i' && (match arrT P t with | some (m,el) => m == n && Qu P el == some k && okG P el g | none => false)
  | _ => false)
 | .lookup t m' key' ok' => (match c with | .look sk z ok m key => ok == ok' && okX m m' && okX key key' && (match mapT P t with | some (kt,et) => okKey P kt sk && okZ P et none [z] | none => false) | .look2 z ok m key => ok == ok' && okX m m' && okX key key' && (match mapT P t with | some (kt,et) => pairT P kt && okZ P et none [z] | none => false) | _ => false)
 | .mapUpdate t m' key' v' | .insert t m' key' v' => (match c with | .mupd sk m key v => okX m m' && okX key key' && okX v v' && (match mapT P t with | some (kt,_) => okKey P kt sk | none => false) | .mupd2 m key v => okX m m' && okX key key' && okX v v' && (match mapT P t with | some (kt,_) => pairT P kt | none => false) | _ => false)
 | .extract y i' => (match c with | .ext i x => i == i' && okX x y | _ => false)
 | .call k => YK P c k
 | _ => false
section
variable {R:CCode → Code → Prop} {P:Program} {M:List Blk} {L:Loc} {w w':World} {ρ:CX → PV} {σ:Operand → Value}
theorem Vz {α β:Type} {x:Option α} {M:β} {v:α} {M':β} (h:x.map (·,M) = some (v,M')):x = some v ∧ M' = M:=by
 cases x with
 | none => cases h
 | some y => simp at h;exact ⟨by rw [h.1],h.2.symm⟩
theorem ZX {c:Call} {x:Operand} (h:args1 c = some x):c.args = #[x]:=by
 unfold args1 at h;split at h
 ·rename_i y hy;cases h;exact hy
 ·cases h
theorem Z5 {c:Call} {x y:Operand} (h:args2 c = some (x,y)):c.args = #[x,y]:=by
 unfold args2 at h;split at h
 ·rename_i a b hy;cases h;exact hy
 ·cases h
theorem Qfg (S:Sim R M L w) (H:Fit M L w ρ σ) (hσ:∀ v,σ (.const v) = v) {o:Oper} {c:COp} (ok:okOp P c o.op = true) {v:PV} {M':List Blk} (h:res M ρ c = some (v,M')):Good R P (execOp σ o) M L w v M':=by
 generalize ho:o.op = op at ok
 cases op with
 | move y =>
  cases c with
  | mov x =>
   simp only [res,Option.some.injEq,Prod.mk.injEq] at h;obtain ⟨rfl,rfl⟩:=h
   exact g_mov S H (.inl ho) ok
  | onil k =>
   exact Qhg S (.inl ho) (QaJ ok) hσ h
  | _ => exact Bool.noConfusion ok
 | assign y =>
  cases c with
  | mov x =>
   simp only [res,Option.some.injEq,Prod.mk.injEq] at h;obtain ⟨rfl,rfl⟩:=h
   exact g_mov S H (.inr ho) ok
  | onil k =>
   exact Qhg S (.inr ho) (QaJ ok) hσ h
  | _ => exact Bool.noConfusion ok
 | pick c' a' b' =>
  cases c with
  | pick c a b =>
   simp only [okOp,Bool.and_eq_true,beq_iff_eq,decide_eq_true_eq,bne_iff_ne,Bool.not_eq_true'] at ok
   simp only [res] at h
   obtain ⟨h1,rfl⟩:=Vz h
   exact QnJ S H ho ok.1.1 ok.1.2 ok.2 h1
  | _ => exact Bool.noConfusion ok
 | alloc t =>
  cases c with
  | alloc g z =>
   exact QmE S ho ok h
  | balloc T z =>
   simp only [okOp,Bool.and_eq_true,beq_iff_eq] at ok
   obtain ⟨rfl,ok⟩:=ok
   exact Qj9 S ho ok h
  | _ => exact Bool.noConfusion ok
 | box t y =>
  cases c with
  | box own k x =>
   exact g_box S H ho ok h
  | _ => exact Bool.noConfusion ok
 | build t parts' =>
  cases c with
  | build z parts =>
   simp only [okOp,Qfs,Bool.and_eq_true] at ok
   obtain ⟨hz,ok⟩:=ok
   split at ok
   ·rename_i fs hu
    split at ok
    ·rename_i pl hpl
     exact Qcf S H ho hu hz hpl ok h
    ·cases ok
   ·rename_i n el hu
    split at ok
    ·rename_i k hk
     exact QcZ S H ho hu hk hz ok h
    ·cases ok
   ·cases ok
  | _ => exact Bool.noConfusion ok
 | buildSlice t n parts =>
  cases c with
  | bsl own k xs =>
   simp only [okOp,Bool.and_eq_true,beq_iff_eq,decide_eq_true_eq,bne_iff_ne,Bool.not_eq_true'] at ok
   obtain ⟨⟨⟨hn,hle⟩,hseq⟩,ok⟩:=ok
   split at ok
   ·rename_i el hel
    simp only [Bool.and_eq_true,beq_iff_eq] at ok
    exact g_bsl S H ho (Q3 hel) ok.1 hn hle ok.2 hseq h
   ·cases ok
  | _ => exact Bool.noConfusion ok
 | load t y =>
  cases c with
  | load g x =>
   simp only [okOp,Bool.and_eq_true,beq_iff_eq,decide_eq_true_eq,bne_iff_ne,Bool.not_eq_true'] at ok
   exact Qn9 S H ho ok.1 ok.2 h
  | _ => exact Bool.noConfusion ok
 | store t a' v' =>
  cases c with
  | store k a v =>
   simp only [okOp,Bool.and_eq_true,beq_iff_eq,decide_eq_true_eq,bne_iff_ne,Bool.not_eq_true'] at ok
   exact Qlu S H ho ok.1.1 ok.1.2 ok.2 h
  | _ => exact Bool.noConfusion ok
 | nilCheck y =>
  cases c with
  | nilc x =>
   exact QnD S H ho ok h
  | unty x =>
   exact Qnz S H ho ok h
  | _ => exact Bool.noConfusion ok
 | binOp op' t x' y' ty =>
  cases c with
  | bin op x y =>
   simp only [okOp,Bool.and_eq_true,beq_iff_eq,decide_eq_true_eq,bne_iff_ne,Bool.not_eq_true'] at ok
   obtain ⟨⟨rfl,hx⟩,hy⟩:=ok
   simp only [res] at h
   obtain ⟨h1,rfl⟩:=Vz h
   exact g_bin S H ho hx hy h1
  | binb op x y =>
   simp only [okOp,Bool.and_eq_true,beq_iff_eq,decide_eq_true_eq,bne_iff_ne,Bool.not_eq_true'] at ok
   obtain ⟨⟨⟨rfl,hx⟩,hy⟩,ht⟩:=ok
   simp only [res] at h
   obtain ⟨h1,rfl⟩:=Vz h
   exact QnQ S H ho hx hy (QdP ht) h1
  | isnil neg x =>
   simp only [okOp,Bool.and_eq_true,beq_iff_eq] at ok
   obtain ⟨⟨⟨rfl,hx⟩,hy⟩,ht⟩:=ok
   obtain ⟨ms,ht⟩:=QeU ht
   have hy:=QeV hy
   subst hy
   exact QmV S H ho hx hσ ht h
  | eqs neg lay x y =>
   simp only [okOp,Bool.and_eq_true,beq_iff_eq,decide_eq_true_eq,bne_iff_ne,Bool.not_eq_true'] at ok
   obtain ⟨⟨⟨⟨⟨rfl,hx⟩,hy⟩,hl⟩,hg⟩,hb⟩:=ok
   exact g_eqs S H ho hx hy hl hg hb h
  | sop o' xs =>
   simp only [okOp] at ok
   split at ok
   all_goals first|(cases ok;done)|skip
   all_goals first|(rename_i heq;cases heq;done)|skip
   rename_i op x y heq
   cases heq
   simp only [Bool.and_eq_true,beq_iff_eq] at ok
   obtain ⟨⟨rfl,hx⟩,hy⟩:=ok
   simp only [res,List.map] at h
   obtain ⟨h1,rfl⟩:=Vz h
   exact Qng S H ho hx hy h1
  | _ => exact Bool.noConfusion ok
 | unOp op' t y =>
  cases c with
  | un op x =>
   simp only [okOp,Bool.and_eq_true,beq_iff_eq,decide_eq_true_eq,bne_iff_ne,Bool.not_eq_true'] at ok
   obtain ⟨rfl,hx⟩:=ok
   simp only [res] at h
   obtain ⟨h1,rfl⟩:=Vz h
   exact g_un S H ho hx h1
  | _ => exact Bool.noConfusion ok
 | convert s t y =>
  cases c with
  | b2s x =>
   simp only [okOp,Bool.and_eq_true] at ok
   obtain ⟨⟨hx,hs⟩,ht⟩:=ok
   obtain ⟨e,hs,he⟩:=Ji hs
   exact g_b2s S H ho hx hs he (V3 ht) h
  | s2b own x =>
   simp only [okOp,Bool.and_eq_true] at ok
   obtain ⟨⟨hx,hs⟩,ht⟩:=ok
   obtain ⟨e,ht,he⟩:=Ji ht
   exact g_s2b S H ho hx (V3 hs) ht he h
  | mark x =>
   simp only [okOp,Bool.and_eq_true,beq_iff_eq] at ok
   obtain ⟨⟨hx,hst⟩,hs⟩:=ok
   obtain ⟨e,hs,he⟩:=Ji hs
   exact QnP S H ho hx hst hs he h
  | conv k x =>
   simp only [okOp,Bool.and_eq_true,beq_iff_eq,decide_eq_true_eq,bne_iff_ne,Bool.not_eq_true'] at ok
   obtain ⟨⟨hx,hs⟩,ht⟩:=ok
   obtain ⟨ks,hks⟩:=Option.isSome_iff_exists.1 hs
   simp only [res] at h
   obtain ⟨h1,rfl⟩:=Vz h
   exact QnG S H ho hx (Y6 hks) (Y6 ht) h1
  | sop o' xs =>
   simp only [okOp] at ok
   split at ok
   all_goals first|(cases ok;done)|skip
   all_goals first|(rename_i heq;cases heq;done)|skip
   all_goals
    rename_i heq
    cases heq
    simp only [Bool.and_eq_true,beq_iff_eq] at ok
    obtain ⟨⟨hx,hs⟩,ht⟩:=ok
    simp only [res,List.map] at h
    obtain ⟨h1,rfl⟩:=Vz h
    first
     | exact g_ff S H ho hx hs (Qcl ht) h1
     | exact g_fi S H ho hx hs (Y6 ht) h1
     | exact g_itf S H ho hx hs (Qcl ht) h1
  | _ => exact Bool.noConfusion ok
 | range t y =>
  cases c with
  | srng x =>
   simp only [okOp,Bool.and_eq_true] at ok
   exact Qon S H ho ok.1 (V3 ok.2) h
  | mrng x =>
   simp only [okOp,Bool.and_eq_true] at ok
   obtain ⟨k,e,hu⟩:=QeO ok.2
   exact QnK S H ho ok.1 hu h
  | _ => exact Bool.noConfusion ok
 | entry y =>
  cases c with
  | ment x => exact Qna S H ho ok h
  | _ => exact Bool.noConfusion ok
 | next y str =>
  cases c with
  | snxt x =>
   simp only [okOp,Bool.and_eq_true] at ok
   obtain ⟨hx,rfl⟩:=ok
   exact Qoq S H ho hx h
  | _ => exact Bool.noConfusion ok
 | sliceToArrayPointer t y =>
  cases c with
  | arrp n x =>
   simp only [okOp,Bool.and_eq_true,beq_iff_eq,decide_eq_true_eq,bne_iff_ne,Bool.not_eq_true'] at ok
   obtain ⟨hx,ok⟩:=ok
   split at ok
   ·rename_i m e he
    simp only [beq_iff_eq] at ok
    subst ok
    exact Qoc S H ho hx (Yv he) h
   ·cases ok
  | _ => exact Bool.noConfusion ok
 | makeFunc f first cap =>
  cases c with
  | mkbm g xs =>
   simp only [okOp,Bool.and_eq_true,beq_iff_eq] at ok
   obtain ⟨⟨hf,hcap⟩,hx⟩:=ok
   split at hf
   ·simp only [beq_iff_eq] at hf
    subst hf
    have hfe:cap = #[]:=by simpa using hcap
    subst hfe
    simp only [res,Option.some.injEq,Prod.mk.injEq] at h
    obtain ⟨rfl,rfl⟩:=h
    exact QnE S H ho hx
   ·cases hf
  | mkfn g xs =>
   simp only [okOp,Bool.and_eq_true,beq_iff_eq,decide_eq_true_eq,bne_iff_ne,Bool.not_eq_true'] at ok
   obtain ⟨⟨hf,hfirst⟩,hx⟩:=ok
   split at hf
   ·simp only [beq_iff_eq] at hf
    subst hf
    have hfe:first = #[]:=by simpa using hfirst
    subst hfe
    simp only [res,Option.some.injEq,Prod.mk.injEq] at h
    obtain ⟨rfl,rfl⟩:=h
    exact Qnn S H ho hx
   ·cases hf
  | _ => exact Bool.noConfusion ok
 | makeMap t r =>
  cases c with
  | mkmap  =>
   simp only [okOp,Option.isNone_iff_eq_none] at ok
   subst ok
   exact QkX S ho h
  | _ => exact Bool.noConfusion ok
 | makeSlice t l n =>
  cases c with
  | mksl k g z bytes len cap =>
   simp only [okOp,Bool.and_eq_true,beq_iff_eq,decide_eq_true_eq,bne_iff_ne,Bool.not_eq_true'] at ok
   obtain ⟨⟨h1,h2⟩,ok⟩:=ok
   split at ok
   ·rename_i el hel
    simp only [Bool.and_eq_true,beq_iff_eq] at ok
    exact Qop S H ho h1 h2 (Q3 hel) ok.1.1 ok.1.2 ok.2 h
   ·cases ok
  | _ => exact Bool.noConfusion ok
 | slice t y lo' hi' mx =>
  simp only [okOp,Bool.and_eq_true,Option.isNone_iff_eq_none] at ok
  obtain ⟨rfl,ok⟩:=ok
  cases c with
  | slice k x lo hi =>
   simp only [Bool.and_eq_true] at ok
   obtain ⟨⟨⟨hx,hl⟩,hh⟩,ok⟩:=ok
   split at ok
   ·rename_i el hel
    simp only [beq_iff_eq] at ok
    exact QlR S H ho hx hl hh (Q3 hel) ok h
   ·cases ok
  | slstr x lo hi =>
   simp only [Bool.and_eq_true] at ok
   obtain ⟨⟨⟨hx,hl⟩,hh⟩,ok⟩:=ok
   exact Qmx S H ho hx hl hh (V3 ok) h
  | arrsl n x =>
   simp only [Bool.and_eq_true,Option.isNone_iff_eq_none] at ok
   obtain ⟨⟨⟨hx,rfl⟩,rfl⟩,ok⟩:=ok
   split at ok
   ·rename_i m el hel
    simp only [Bool.and_eq_true,beq_iff_eq] at ok
    obtain ⟨rfl,hk⟩:=ok
    exact Qk9 S H ho hx (Yv hel) hk h
   ·cases ok
  | arrfz n x =>
   simp only [Bool.and_eq_true,Option.isNone_iff_eq_none] at ok
   obtain ⟨⟨⟨hx,rfl⟩,rfl⟩,ok⟩:=ok
   split at ok
   ·rename_i m el hel
    simp only [Bool.and_eq_true,beq_iff_eq] at ok
    obtain ⟨rfl,hk⟩:=ok
    exact Qk0 S H ho hx (Yv hel) hk h
   ·cases ok
  | _ => exact Bool.noConfusion ok
 | fieldAddr t y f =>
  cases c with
  | faddr off x =>
   simp only [okOp,Bool.and_eq_true,beq_iff_eq,decide_eq_true_eq,bne_iff_ne,Bool.not_eq_true'] at ok
   obtain ⟨hx,ok⟩:=ok
   split at ok
   ·rename_i fd hfd
    obtain ⟨fs,hu,hf⟩:=QaF hfd
    simp only [Bool.and_eq_true,beq_iff_eq] at ok
    obtain ⟨hoff,ok⟩:=ok
    split at ok
    ·rename_i n hn
     exact QmH S H ho hx hu hf hoff hn (by simpa using ok) h
    ·cases ok
   ·cases ok
  | _ => exact Bool.noConfusion ok
 | field t y f =>
  cases c with
  | field off g x =>
   simp only [okOp,Bool.and_eq_true,beq_iff_eq,decide_eq_true_eq,bne_iff_ne,Bool.not_eq_true'] at ok
   obtain ⟨hx,ok⟩:=ok
   split at ok
   ·rename_i fd hfd
    obtain ⟨fs,hu,hf⟩:=QaF hfd
    simp only [Bool.and_eq_true,beq_iff_eq] at ok
    exact Ql6 S H ho hx hu hf ok.1 ok.2 h
   ·cases ok
  | _ => exact Bool.noConfusion ok
 | indexAddr t y i' =>
  cases c with
  | iaddr k x i =>
   simp only [okOp,Bool.and_eq_true,beq_iff_eq,decide_eq_true_eq,bne_iff_ne,Bool.not_eq_true'] at ok
   obtain ⟨⟨hx,hi⟩,ok⟩:=ok
   split at ok
   ·rename_i el hel
    simp only [beq_iff_eq] at ok
    exact Ql9 S H ho hx hi (Q3 hel) ok h
   ·cases ok
  | iaddra n k x i =>
   simp only [okOp,Bool.and_eq_true,beq_iff_eq,decide_eq_true_eq,bne_iff_ne,Bool.not_eq_true'] at ok
   obtain ⟨⟨hx,hi⟩,ok⟩:=ok
   split at ok
   ·rename_i m el hel
    simp only [Bool.and_eq_true,beq_iff_eq] at ok
    obtain ⟨rfl,hk⟩:=ok
    exact Qj6 S H ho hx hi (Yv hel) hk h
   ·cases ok
  | _ => exact Bool.noConfusion ok
 | index t y i' =>
  cases c with
  | idxs x i =>
   simp only [okOp,Bool.and_eq_true,beq_iff_eq,decide_eq_true_eq,bne_iff_ne,Bool.not_eq_true'] at ok
   exact Qnu S H ho ok.1.1 ok.1.2 (V3 ok.2) h
  | idxa n k g x i =>
   simp only [okOp,Bool.and_eq_true,beq_iff_eq,decide_eq_true_eq,bne_iff_ne,Bool.not_eq_true'] at ok
   obtain ⟨⟨hx,hi⟩,ok⟩:=ok
   split at ok
   ·rename_i m el hel
    simp only [Bool.and_eq_true,beq_iff_eq] at ok
    obtain ⟨⟨rfl,hk⟩,hg⟩:=ok
    exact Qob S H ho hx hi (Yv hel) hk hg h
   ·cases ok
  | _ => exact Bool.noConfusion ok
 | lookup t m' key' ok' =>
  cases c with
  | look sk z ok2 m key =>
   simp only [okOp,Bool.and_eq_true,beq_iff_eq,decide_eq_true_eq,bne_iff_ne,Bool.not_eq_true'] at ok
   obtain ⟨⟨⟨rfl,hm⟩,hk⟩,ok⟩:=ok
   split at ok
   ·rename_i kt et hmt
    simp only [Bool.and_eq_true] at ok
    exact QnB S H ho hm hk (ZF hmt) ok.1 ok.2 h
   ·cases ok
  | look2 z ok2 m key =>
   simp only [okOp,Bool.and_eq_true,beq_iff_eq] at ok
   obtain ⟨⟨⟨rfl,hm⟩,hk⟩,ok⟩:=ok
   split at ok
   ·rename_i kt et hmt
    simp only [Bool.and_eq_true] at ok
    exact QlD S H ho hm hk (ZF hmt) ok.1 ok.2 h
   ·cases ok
  | _ => exact Bool.noConfusion ok
 | mapUpdate t m' key' v' =>
  cases c with
  | mupd sk m key v =>
   simp only [okOp,Bool.and_eq_true,beq_iff_eq,decide_eq_true_eq,bne_iff_ne,Bool.not_eq_true'] at ok
   obtain ⟨⟨⟨hm,hk⟩,hv⟩,ok⟩:=ok
   split at ok
   ·rename_i kt et hmt
    exact Qin S H (.inl ho) hm hk hv (ZF hmt) ok h
   ·cases ok
  | mupd2 m key v =>
   simp only [okOp,Bool.and_eq_true] at ok
   obtain ⟨⟨⟨hm,hk⟩,hv⟩,ok⟩:=ok
   split at ok
   ·rename_i kt et hmt
    exact Qfn S H (.inl ho) hm hk hv (ZF hmt) ok h
   ·cases ok
  | _ => exact Bool.noConfusion ok
 | insert t m' key' v' =>
  cases c with
  | mupd sk m key v =>
   simp only [okOp,Bool.and_eq_true,beq_iff_eq,decide_eq_true_eq,bne_iff_ne,Bool.not_eq_true'] at ok
   obtain ⟨⟨⟨hm,hk⟩,hv⟩,ok⟩:=ok
   split at ok
   ·rename_i kt et hmt
    exact Qin S H (.inr ho) hm hk hv (ZF hmt) ok h
   ·cases ok
  | mupd2 m key v =>
   simp only [okOp,Bool.and_eq_true] at ok
   obtain ⟨⟨⟨hm,hk⟩,hv⟩,ok⟩:=ok
   split at ok
   ·rename_i kt et hmt
    exact Qfn S H (.inr ho) hm hk hv (ZF hmt) ok h
   ·cases ok
  | _ => exact Bool.noConfusion ok
 | extract y i' =>
  cases c with
  | ext i x =>
   simp only [okOp,Bool.and_eq_true,beq_iff_eq,decide_eq_true_eq,bne_iff_ne,Bool.not_eq_true'] at ok
   obtain ⟨rfl,hx⟩:=ok
   exact g_ext S H ho hx h
  | _ => exact Bool.noConfusion ok
 | call k =>
  obtain ⟨callee,args,ats⟩:=k
  simp only [okOp,YK] at ok
  split at ok
  ·rename_i x
   split at ok
   ·rename_i y t hy ht
    simp only [Bool.and_eq_true] at ok
    have hy':=ZX hy
    subst hy'
    obtain ⟨el,hel⟩:=Option.isSome_iff_exists.1 ok.2
    exact g_len S H ho ok.1 ht (Q3 hel) h
   ·cases ok
  ·rename_i x
   split at ok
   ·rename_i y t hy ht
    simp only [Bool.and_eq_true] at ok
    have hy':=ZX hy
    subst hy'
    exact QnA S H ho ok.1 ht (V3 ok.2) h
   ·cases ok
  ·rename_i n bytes x y
   split at ok
   ·rename_i x' y' t t1 hy ht ht1
    have hy':=Z5 hy
    subst hy'
    simp only [Bool.and_eq_true] at ok
    obtain ⟨⟨⟨hx,hy⟩,hni⟩,ok⟩:=ok
    obtain ⟨d,hd,hdi⟩:=JY hni
    split at ok
    ·rename_i el hel
     simp only [Bool.and_eq_true,beq_iff_eq] at ok
     obtain ⟨⟨hk,hby⟩,ok⟩:=ok
     split at ok
     ·rename_i zv hzv
      simp only [Bool.and_eq_true,beq_iff_eq,Bool.or_eq_true] at ok
      obtain ⟨⟨h1,h2⟩,h3⟩:=ok
      cases hag:aggV zv with
      | true =>
       cases zv <;> simp [aggV] at hag
       rename_i cs
       refine Qdn S H ho hx hy ht ht1 (Q3 hel) hd hdi hk hby (g:=some cs.toList.length) (zz:=cs.toList) ?_ (by simpa [Value.cells] using h2) h
       unfold okZ
       rw [hzv]
       simp only [Bool.and_eq_true,beq_iff_eq,and_true]
       simpa [Value.cells] using h1
      | false =>
       refine Qdn S H ho hx hy ht ht1 (Q3 hel) hd hdi hk hby (g:=none) (zz:=zv.cells.toList) ?_ (by simpa using h2) h
       unfold okZ
       rw [hzv]
       have:zv.cells.toList = [zv]:=by cases zv <;> first|rfl|(simp [aggV] at hag)
       rw [this] at h1 ⊢
       exact h1
     ·cases ok
    ·cases ok
   ·cases ok
  ·rename_i n x y
   split at ok
   ·rename_i x' y' t hy ht
    have hy':=Z5 hy
    subst hy'
    simp only [Bool.and_eq_true] at ok
    obtain ⟨⟨hx,hy⟩,ok⟩:=ok
    split at ok
    ·rename_i el hel
     simp only [beq_iff_eq] at ok
     exact Qol S H ho hx hy ht (Q3 hel) ok h
    ·cases ok
   ·cases ok
  ·rename_i x
   split at ok
   ·rename_i y t hy ht
    simp only [Bool.and_eq_true] at ok
    have hy':=ZX hy
    subst hy'
    obtain ⟨el,hel⟩:=Option.isSome_iff_exists.1 ok.2
    exact Qoi S H ho ok.1 ht (Q3 hel) h
   ·cases ok
  ·rename_i n g z bytes x y
   split at ok
   ·rename_i x' y' t t1 hy ht ht1
    have hy':=Z5 hy
    subst hy'
    simp only [Bool.and_eq_true] at ok
    obtain ⟨⟨⟨hx,hy⟩,hni⟩,ok⟩:=ok
    obtain ⟨kk,hkk⟩:=Option.isSome_iff_exists.1 hni
    split at ok
    ·rename_i el hel
     simp only [Bool.and_eq_true,beq_iff_eq] at ok
     exact QnR S H ho hx hy ht ht1 (Q3 hel) (Y6 hkk) ok.1.1 ok.1.2 ok.2 h
    ·cases ok
   ·cases ok
  ·rename_i e bytes x y
   split at ok
   ·rename_i x' y' t t1 hy ht ht1
    have hy':=Z5 hy
    subst hy'
    simp only [Bool.and_eq_true] at ok
    obtain ⟨⟨⟨hx,hy⟩,hni⟩,ok⟩:=ok
    obtain ⟨d,hd,hdi⟩:=JY hni
    split at ok
    ·rename_i el hel
     simp only [Bool.and_eq_true,beq_iff_eq] at ok
     obtain ⟨⟨⟨rfl,hk⟩,hby⟩,ok⟩:=ok
     split at ok
     ·rename_i zv hzv
      simp only [Bool.and_eq_true,beq_iff_eq] at ok
      exact Qn1 S H ho hx hy ht ht1 (Q3 hel) hd hdi hk hby (g:=none) (zz:=zv.cells.toList) ok.1 ok.2 h
     ·cases ok
    ·cases ok
   ·cases ok
  ·rename_i x
   split at ok
   ·rename_i y hy
    have hy':=ZX hy
    subst hy'
    exact g_usd S H ho ok h
   ·cases ok
  ·rename_i e p n s
   split at ok
   ·rename_i p' n' pt it hy hts
    have hy':=Z5 hy
    have hts':=Qil hts
    subst hy'
    subst hts'
    simp only [Bool.and_eq_true,beq_iff_eq] at ok
    obtain ⟨⟨⟨⟨hp,hn⟩,hs⟩,ht⟩,hc⟩:=ok
    exact Qnr S H ho hp hn hs (QhV ht) hc h
   ·cases ok
  ·rename_i n g z x
   split at ok
   ·rename_i y t hy ht
    have hy':=ZX hy
    subst hy'
    simp only [Bool.and_eq_true] at ok
    obtain ⟨hx,ok⟩:=ok
    split at ok
    ·rename_i el hel
     simp only [Bool.and_eq_true,beq_iff_eq] at ok
     exact g_clr S H ho hx ht (Q3 hel) ok.1 ok.2 h
    ·cases ok
   ·cases ok
  ·rename_i x xs
   exact g_max S H ho ok h
  ·rename_i x xs
   exact g_min S H ho ok h
  ·cases ok
 | _ => exact Bool.noConfusion ok
end
end Go.Nac
namespace Go.Nac
variable [Env]
def COp.opnds:COp → List CX
 | .bad => []
 | .mov x => [x]
 | .onil _ => []
 | .pick c a b => [c,a,b]
 | .alloc _ _ => []
 | .box _ _ x => [x]
 | .build _ ps => ps.map (·.2.2)
 | .bsl _ _ xs => xs
 | .load _ x => [x]
 | .store _ a v => [a,v]
 | .nilc x => [x]
 | .bin _ x y => [x,y]
 | .binb _ x y => [x,y]
 | .eqs _ _ x y => [x,y]
 | .un _ x => [x]
 | .conv _ x => [x]
 | .arrp _ x => [x]
 | .mkfn _ xs => xs
 | .mkmap => []
 | .mksl _ _ _ _ a b => [a,b]
 | .slice _ x lo hi => x :: (lo.toList ++ hi.toList)
 | .slstr x lo hi => x :: (lo.toList ++ hi.toList)
 | .faddr _ x => [x]
 | .field _ _ x => [x]
 | .iaddr _ x i => [x,i]
 | .iaddra _ _ x i => [x,i]
 | .idxs x i => [x,i]
 | .idxa _ _ _ x i => [x,i]
 | .look _ _ _ m k => [m,k]
 | .mupd _ m k v => [m,k,v]
 | .ext _ x => [x]
 | .len x => [x]
 | .lens x => [x]
 | .append _ _ x y => [x,y]
 | .copy _ x y => [x,y]
 | .capn x => [x]
 | .appz _ _ _ _ x n => [x,n]
 | .max x xs => x :: xs
 | .min x xs => x :: xs
 | .call _ f xs => (match f with | .inl x => [x] | .inr _ => []) ++ xs
 | .fz c => c.opnds
 | .sop _ xs => xs
 | .srng x => [x]
 | .snxt x => [x]
 | .arrsl _ x => [x]
 | .isnil _ x => [x]
 | .b2s x => [x]
 | .s2b _ x => [x]
 | .mark x => [x]
 | .mkbm _ xs => xs
 | .pcall f xs => (match f with | .inl x => [x] | .inr _ => []) ++ xs
 | .fcall f xs => f :: xs
 | .balloc _ _ => []
 | .unty x => [x]
 | .tapp _ _ x y => [x,y]
 | .usd x => [x]
 | .ustr _ p n s => [p,n,s]
 | .arrfz _ x => [x]
 | .clr _ _ _ x => [x]
 | .look2 _ _ m k => [m,k]
 | .mupd2 m k v => [m,k,v]
 | .mrng x => [x]
 | .ment x => [x]
def COp.cls:COp → Nat
 | .mov _ | .pick .. | .build .. | .bin .. | .binb .. | .eqs .. | .un .. | .conv .. | .mkfn .. | .slstr .. | .field .. | .idxs .. | .idxa .. | .ext .. | .len _ | .lens _ | .max .. | .min .. | .bad | .sop .. | .arrsl .. | .isnil .. | .mkbm .. | .pcall .. => 0
 | .s2b own _ => if own then 2 else 0
 | .b2s _ => 1
 | .box own _ _ => if own then 2 else 1
 | .bsl own _ _ => if own then 2 else 1
 | .load .. | .nilc _ | .look2 .. | .unty _ | .usd _ | .arrp .. | .slice .. | .faddr .. | .iaddr .. | .iaddra .. | .look .. => 1
 | .call loud _ _ => if loud then 2 else 1
 | .fz _ => 2
 | _ => 2
theorem VV {ρ ρ':CX → PV} {xs:List CX} (h:∀ x ∈ xs,ρ x = ρ' x):xs.map ρ = xs.map ρ':=List.map_congr_left h
theorem Y4 {ρ ρ':CX → PV} {x:Option CX} (h:∀ y ∈ x.toList,ρ y = ρ' y):x.map ρ = x.map ρ':=by
 cases x with
 | none => rfl
 | some y => simp [h y (by simp)]
theorem QcD {M:List Blk} {ρ ρ':CX → PV} (c:COp) (h:∀ x ∈ c.opnds,ρ x = ρ' x):res M ρ c = res M ρ' c:=by
  cases c
  case build z ps =>
    have:ps.map (fun p => (p.1,p.2.1,ρ p.2.2)) = ps.map (fun p => (p.1,p.2.1,ρ' p.2.2)):=List.map_congr_left fun p hp => by
      rw [h p.2.2 (List.mem_map.2 ⟨p,hp,rfl⟩)]
    simp only [res,this]
  case bsl own k xs =>
    have h1:xs.map ρ = xs.map ρ':=VV h
    have h2:xs.map (fun x => view M (ρ x)) = xs.map (fun x => view M (ρ' x)):=List.map_congr_left fun x hx => by rw [h x hx]
    simp only [res,h1,h2]
  case mkfn f xs =>
    have hx:=VV (ρ:=ρ) (ρ':=ρ') (xs:=xs) h
    simp only [res,hx]
  case slice k x lo hi =>
    have h1:=h x (by simp [COp.opnds])
    have h2:=Y4 (ρ:=ρ) (ρ':=ρ') (x:=lo) fun y hy => h y (by simp only [COp.opnds,List.mem_cons,List.mem_append];exact .inr (.inl hy))
    have h3:=Y4 (ρ:=ρ) (ρ':=ρ') (x:=hi) fun y hy => h y (by simp only [COp.opnds,List.mem_cons,List.mem_append];exact .inr (.inr hy))
    simp only [res,h1,h2,h3]
  case slstr x lo hi =>
    have h1:=h x (by simp [COp.opnds])
    have h2:=Y4 (ρ:=ρ) (ρ':=ρ') (x:=lo) fun y hy => h y (by simp only [COp.opnds,List.mem_cons,List.mem_append];exact .inr (.inl hy))
    have h3:=Y4 (ρ:=ρ) (ρ':=ρ') (x:=hi) fun y hy => h y (by simp only [COp.opnds,List.mem_cons,List.mem_append];exact .inr (.inr hy))
    simp only [res,h1,h2,h3]
  case max x xs =>
    have h1:=h x (by simp [COp.opnds])
    have h2:=VV (ρ:=ρ) (ρ':=ρ') (xs:=xs) fun y hy => h y (by simp [COp.opnds,hy])
    simp only [res,h1,h2]
  case min x xs =>
    have h1:=h x (by simp [COp.opnds])
    have h2:=VV (ρ:=ρ) (ρ':=ρ') (xs:=xs) fun y hy => h y (by simp [COp.opnds,hy])
    simp only [res,h1,h2]
  case sop o xs =>
    have hx:=VV (ρ:=ρ) (ρ':=ρ') (xs:=xs) h
    simp only [res,hx]
  case mkbm f xs =>
    have hx:=VV (ρ:=ρ) (ρ':=ρ') (xs:=xs) h
    simp only [res,hx]
  case call => rfl
  case pcall => rfl
  case fcall => rfl
  case fz => rfl
  all_goals (first
    | rfl
    | (simp only [COp.opnds,List.mem_cons,List.not_mem_nil,or_false,forall_eq_or_imp,forall_eq] at h
       first
         | (simp only [res,h];done)
         | (obtain ⟨h1,h2,h3⟩:=h;simp only [res,h1,h2,h3];done)
         | (obtain ⟨h1,h2⟩:=h;simp only [res,h1,h2];done)))
theorem Ym {C:CallR} {M M':List Blk} {ρ ρ':CX → PV} {v:PV} (c:COp) (h:∀ x ∈ c.opnds,ρ x = ρ' x) (k:Res C c M ρ v M'):Res C c M ρ' v M':=by
 cases c
 case call loud f xs =>
  refine ⟨k.1,?_⟩
  have k2:=k.2
  have hx:xs.map (argV M ρ) = xs.map (argV M ρ'):=List.map_congr_left fun x hx => by
   have:=h x (by simp [COp.opnds,hx])
   cases x <;> simp only [argV,this]
  cases f with
  | inr g => simp only at k2 ⊢;rw [← hx];exact k2
  | inl y =>
   have hy:=h y (by simp [COp.opnds])
   simp only at k2 ⊢
   rw [hx,hy] at k2
   exact k2
 case fcall f xs =>
  have hx:xs.map (argV [] ρ) = xs.map (argV [] ρ'):=List.map_congr_left fun x hx => by
   have:=h x (by simp [COp.opnds,hx])
   cases x <;> simp only [argV,this]
  have hf:ρ f = ρ' f:=h f (by simp [COp.opnds])
  obtain ⟨i,b,h1,h2,h3,h4⟩:=k
  exact ⟨i,b,hf ▸ h1,h2,hx ▸ h3,fun N h5 h6 => by have h7:=h4 N h5 h6;rw [hf,hx] at h7;exact h7⟩
 case pcall f xs =>
  have hx:xs.map (argV [] ρ) = xs.map (argV [] ρ'):=List.map_congr_left fun x hx => by
   have:=h x (by simp [COp.opnds,hx])
   cases x <;> simp only [argV,this]
  refine ⟨k.1,by rw [← hx];exact k.2.1,fun N => ?_⟩
  have k2:=k.2.2 N
  cases f with
  | inr g => simp only at k2 ⊢;rw [← hx];exact k2
  | inl y =>
   have hy:=h y (by simp [COp.opnds])
   simp only at k2 ⊢
   rw [hx,hy] at k2
   exact k2
 case fz c =>
  obtain ⟨v0,M1,h1,h2⟩:=k
  exact ⟨v0,M1,(QcD c h).symm.trans h1,h2⟩
 all_goals exact (QcD _ h).symm.trans k
theorem Qdf {M M':List Blk} {ρ:CX → PV} {v:PV} {c:COp} (hc:c.cls = 0) (h:res M ρ c = some (v,M')):M' = M ∧ ∀ M2,res M2 ρ c = some (v,M2):=by
 have key:∀ {f:List Blk → Option (PV × List Blk)} (x:Option PV),(∀ M,f M = x.map (·,M)) → f M = some (v,M') → M' = M ∧ ∀ M2,f M2 = some (v,M2):=by
  intro f x hf hM
  rw [hf] at hM
  obtain ⟨rfl,rfl⟩:=Vz hM
  exact ⟨rfl,fun M2 => by rw [hf];rfl⟩
 cases c
 case mov x => exact key (f:=fun M => res M ρ (.mov x)) (some (ρ x)) (fun _ => rfl) h
 case pick a b c => exact key (f:=fun M => res M ρ (.pick a b c)) _ (fun _ => rfl) h
 case build z ps => exact key (f:=fun M => res M ρ (.build z ps)) ((Q5 (z.map .s) (ps.map fun p => (p.1,p.2.1,ρ p.2.2))).map .agg) (fun M => by simp only [res,Option.map_map];rfl) h
 case bin op x y => exact key (f:=fun M => res M ρ (.bin op x y)) _ (fun _ => rfl) h
 case binb op x y => exact key (f:=fun M => res M ρ (.binb op x y)) _ (fun _ => rfl) h
 case un op x => exact key (f:=fun M => res M ρ (.un op x)) _ (fun _ => rfl) h
 case conv op x => exact key (f:=fun M => res M ρ (.conv op x)) _ (fun _ => rfl) h
 case mkfn f xs => exact key (f:=fun M => res M ρ (.mkfn f xs)) (some _) (fun _ => rfl) h
 case len x => exact key (f:=fun M => res M ρ (.len x)) ((lenOf (ρ x)).map fun (n:Nat) => .I (n:Int)) (fun M => by simp only [res,Option.map_map];rfl) h
 case max x xs => exact key (f:=fun M => res M ρ (.max x xs)) _ (fun _ => rfl) h
 case min x xs => exact key (f:=fun M => res M ρ (.min x xs)) _ (fun _ => rfl) h
 case sop o xs => exact key (f:=fun M => res M ρ (.sop o xs)) _ (fun _ => rfl) h
 case mkbm f xs => exact key (f:=fun M => res M ρ (.mkbm f xs)) (some _) (fun _ => rfl) h
 case isnil neg x =>
  refine key (f:=fun M => res M ρ (.isnil neg x)) (match ρ x with|.err => some (.B neg)|.s .nilIface => some (.B (!neg))|_ => none) (fun M => ?_) h
  simp only [res];split <;> split <;> simp_all
 case s2b own x =>
  simp only [COp.cls] at hc
  cases own
  ·refine key (f:=fun M => res M ρ (.s2b false x)) (match ρ x with|.s (.string b) => some (.fs (QH b))|_ => none) (fun M => ?_) h
   simp only [res];split <;> split <;> simp_all
  ·cases hc
 case arrsl n x => exact key (f:=fun M => res M ρ (.arrsl n x)) _ (fun _ => rfl) h
 case lens x =>
  refine key (f:=fun M => res M ρ (.lens x)) (match ρ x with|.s (.string b) => some (.I (b.size:Int))|_ => none) (fun M => ?_) h
  simp only [res];split <;> split <;> simp_all
 case eqs neg lay x y =>
  refine key (f:=fun M => res M ρ (.eqs neg lay x y)) (match ρ x,ρ y with|.agg xs,.agg ys => (QL lay xs ys).map fun b => .B (if neg then !b else b)|_,_ => none) (fun M => ?_) h
  simp only [res];split <;> split <;> simp_all [Option.map_map,Function.comp_def]
 case slstr x lo hi =>
  refine key (f:=fun M => res M ρ (.slstr x lo hi)) (match ρ x with|.s (.string b) => (bounds b.size (lo.map ρ) (hi.map ρ)).map fun p => .s (.string (b.extract p.1 p.2))|_ => none) (fun M => ?_) h
  simp only [res];split <;> split <;> simp_all [Option.map_map,Function.comp_def]
 case field off g x =>
  refine key (f:=fun M => res M ρ (.field off g x)) (match ρ x with|.agg cs => mkPV g ((cs.drop off).take (g.getD 1))|_ => none) (fun M => ?_) h
  simp only [res];split <;> split <;> simp_all
 case idxs x i =>
  refine key (f:=fun M => res M ρ (.idxs x i)) (match ρ x,asNat (ρ i) with|.s (.string b),some n => (b[n]?).map fun c => .s (.int .u8 c.toNat)|_,_ => none) (fun M => ?_) h
  simp only [res];split <;> split <;> simp_all [Option.map_map,Function.comp_def]
 case idxa n k g x i =>
  refine key (f:=fun M => res M ρ (.idxa n k g x i)) (match ρ x,asNat (ρ i) with|.agg cs,some m => if m < n then mkPV g ((cs.drop (m * k)).take (g.getD 1)) else none|_,_ => none) (fun M => ?_) h
  simp only [res]
  generalize ρ x = vx
  generalize asNat (ρ i) = vn
  cases vn <;> cases vx <;> try rfl
  simp only
  split <;> rfl
 case ext i x =>
  refine key (f:=fun M => res M ρ (.ext i x)) (match ρ x with|.tup vs => vs[i]?|_ => none) (fun M => ?_) h
  simp only [res];split <;> split <;> simp_all
 case bad => simp [res] at h
 case pcall f xs => simp [res] at h
 case fcall f xs => simp [res] at h
 all_goals (simp only [COp.cls] at hc;first|(cases hc;done)|(split at hc <;> cases hc))
theorem Qa8 {M M':List Blk} {ρ:CX → PV} {v:PV} {c:COp} (hc:c.cls ≤ 1) (h:res M ρ c = some (v,M')):M' = M:=by
 by_cases h0:c.cls = 0
 ·exact (Qdf h0 h).1
 have h1:c.cls = 1:=by omega
 cases c
 case b2s x =>
  simp only [res] at h;split at h
  ·cases h
  ·simp only [Option.map_eq_some_iff,Prod.mk.injEq] at h
   obtain ⟨_,_,_,rfl⟩:=h
   rfl
 case s2b own x =>
  simp only [COp.cls] at h1
  cases own <;> cases h1
 case box own k x =>
  simp only [COp.cls] at h1
  cases own
  ·simp only [res] at h;split at h
   ·simp at h;exact h.2.symm
   ·cases h
  ·cases h1
 case bsl own k xs =>
  simp only [COp.cls] at h1
  cases own
  ·simp only [res] at h;split at h
   ·simp at h;exact h.2.symm
   ·cases h
  ·cases h1
 case load g x => exact (Vz h).2
 case look2 z ok m key =>
  simp only [res] at h;split at h
  ·split at h
   ·split at h
    ·simp at h;exact h.2.symm
    ·cases h
   ·cases h
  ·cases h
 case unty x =>
  simp only [res] at h;split at h
  ·split at h
   ·simp at h;exact h.2.symm
   ·cases h
  ·cases h
 case usd x =>
  simp only [res] at h;split at h
  ·simp at h;exact h.2.symm
  ·split at h
   ·simp at h;exact h.2.symm
   ·cases h
  ·cases h
 case nilc x =>
  simp only [res] at h;split at h
  ·simp at h;exact h.2.symm
  ·split at h
   ·simp at h;exact h.2.symm
   ·cases h
  ·simp at h;exact h.2.symm
  ·cases h
 case arrp n x =>
  simp only [res] at h;split at h
  ·split at h
   ·simp at h;exact h.2.symm
   ·cases h
  ·split at h
   ·cases hh:held M (ρ x) with
    | none => simp_all
    | some ys => simp_all
   ·cases h
  ·cases h
 case slice k x lo hi =>
  simp only [res] at h;split at h
  ·split at h
   ·cases hb:bounds _ (lo.map ρ) (hi.map ρ) with
    | none => rw [hb] at h;cases h
    | some p => rw [hb] at h;simp at h;exact h.2.symm
   ·cases h
  ·cases hb:bounds _ (lo.map ρ) (hi.map ρ) with
   | none => rw [hb] at h;cases h
   | some p => rw [hb] at h;simp at h;exact h.2.symm
  ·split at h
   ·cases hb:bounds _ (lo.map ρ) (hi.map ρ) with
    | none => rw [hb] at h;cases h
    | some p => rw [hb] at h;simp at h;exact h.2.symm
   ·cases h
  ·cases h
 case faddr off x =>
  simp only [res] at h;split at h
  ·split at h
   ·simp at h;exact h.2.symm
   ·cases h
  ·split at h
   ·simp at h;exact h.2.symm
   ·cases h
  ·cases h
 case iaddr k x i =>
  simp only [res] at h;split at h
  ·split at h
   ·split at h
    ·simp at h;exact h.2.symm
    ·cases h
   ·cases h
  ·split at h
   ·split at h
    ·split at h
     ·simp at h;exact h.2.symm
     ·cases h
    ·cases h
   ·cases h
  ·cases h
 case iaddra n k x i =>
  simp only [res] at h;split at h
  ·split at h
   ·simp at h;exact h.2.symm
   ·cases h
  ·split at h
   ·simp at h;exact h.2.symm
   ·cases h
  ·cases h
 case look sk z ok m key =>
  simp only [res] at h;split at h
  ·split at h
   ·split at h
    ·split at h
     ·simp at h;exact h.2.symm
     ·simp at h;exact h.2.symm
    ·cases h
   ·cases h
  ·cases h
 case call => cases h
 all_goals (simp only [COp.cls] at h1;cases h1)
theorem JH {C:CallR} {M M':List Blk} {ρ:CX → PV} {v:PV} {c:COp} (hc:c.cls = 0) (h:Res C c M ρ v M'):M' = M ∧ ∀ M2,Res C c M2 ρ v M2:=by
 cases c
 case call loud f xs => simp only [COp.cls] at hc;split at hc <;> cases hc
 case fz => simp [COp.cls] at hc
 case pcall f xs => exact ⟨h.1,fun M2 => ⟨rfl,h.2⟩⟩
 case fcall f xs => simp [COp.cls] at hc
 all_goals exact Qdf hc h
theorem JD {C:CallR} {M M':List Blk} {ρ:CX → PV} {v:PV} {c:COp} (hc:c.cls ≤ 1) (h:Res C c M ρ v M'):M' = M:=by
 cases c
 case call loud f xs =>
  cases loud
  ·exact h.1 rfl
  ·simp [COp.cls] at hc
 case fz => simp [COp.cls] at hc
 case pcall f xs => exact h.1
 case fcall f xs => simp [COp.cls] at hc
 all_goals exact Qa8 hc h
end Go.Nac
namespace Go.Nac
variable [Env]
def QO (C:CallR) (o:COper) (M:List Blk) (t:List PV) (M':List Blk) (t':List PV):Prop :=
 match o.guard with
 | none => ∃ v,Res C o.op M (ev t) v M' ∧ t' = put t o.dst v
 | some (g,want) => ∃ b,wanted (t.getD g .top) want = some b ∧
   (if b = true then ∃ v,Res C o.op M (ev t) v M' ∧ t' = put t o.dst v else M' = M ∧ t' = put t o.dst unit)
def runL (C:CallR) (cs:List COper):List Nat → List Blk → List PV → List Blk → List PV → Prop
 | [],M,t,M',t' => M' = M ∧ t' = t
 | i :: r,M,t,M',t' => ∃ o M1 t1,cs[i]? = some o ∧ QO C o M t M1 t1 ∧ runL C cs r M1 t1 M' t'
theorem QgP {C:CallR} {o:COper} {K:List Blk → List PV → Prop} {M:List Blk} {t:List PV} (h:wpOp C o K M t):∃ M' t',QO C o M t M' t' ∧ K M' t':=by
 cases hg:o.guard with
 | none =>
  rw [wpOp,hg] at h
  obtain ⟨v,M',h1,h2⟩:=h
  refine ⟨M',_,?_,h2⟩
  rw [QO,hg]
  exact ⟨v,h1,rfl⟩
 | some p =>
  obtain ⟨g,want⟩:=p
  rw [wpOp,hg] at h
  obtain ⟨b,h0,h⟩:=h
  by_cases hb:b = true
  ·rw [if_pos hb] at h
   obtain ⟨v,M',h1,h2⟩:=h
   refine ⟨M',_,?_,h2⟩
   rw [QO,hg]
   exact ⟨b,h0,by rw [if_pos hb];exact ⟨v,h1,rfl⟩⟩
  ·rw [if_neg hb] at h
   refine ⟨M,_,?_,h⟩
   rw [QO,hg]
   exact ⟨b,h0,by rw [if_neg hb];exact ⟨rfl,rfl⟩⟩
theorem Qct {C:CallR} {K:List Blk → List PV → Prop} (pre:List COper):∀ (os:List COper) {M:List Blk} {t:List PV},wpOps C os K M t →
  ∃ M' t',runL C (pre ++ os) (List.range' pre.length os.length) M t M' t' ∧ K M' t':=by
 intro os
 induction os generalizing pre with
 | nil => exact fun h => ⟨_,_,⟨rfl,rfl⟩,h⟩
 | cons o os ih =>
  intro M t h
  obtain ⟨M1,t1,h1,h2⟩:=QgP h
  obtain ⟨M2,t2,h3,h4⟩:=ih (pre ++ [o]) h2
  refine ⟨M2,t2,?_,h4⟩
  simp only [List.length_append,List.length_cons,List.length_nil,List.append_assoc,List.cons_append,List.nil_append,List.range'_succ] at h3 ⊢
  exact ⟨o,M1,t1,by simp,h1,h3⟩
def COper.looks (o:COper):List Nat :=
 (o.op.opnds.filterMap fun|.t n => some n|_ => none) ++ (match o.guard with|some (g,_) => [g]|none => [])
def indep (a b:COper):Bool :=
 (match a.dst with|some d => !b.looks.contains d && b.dst != some d|none => true) &&
 (match b.dst with|some d => !a.looks.contains d|none => true) &&
 (a.op.cls == 0 || b.op.cls == 0 || (decide (a.op.cls ≤ 1) && decide (b.op.cls ≤ 1)))
theorem Jk {t:List PV} {dst:Option Nat} {v:PV} {o:COper} (h:∀ d,dst = some d → d ∉ o.looks):∀ x ∈ o.op.opnds,ev (put t dst v) x = ev t x:=by
 intro x hx
 cases dst with
 | none => rfl
 | some d =>
  cases x with
  | t n =>
   have hne:d ≠ n:=fun e => h d rfl (by simp only [COper.looks,List.mem_append,List.mem_filterMap];exact .inl ⟨.t n,hx,by simp [e]⟩)
   simp [ev,put,List.getD,List.getElem?_set_ne hne]
  | k v => rfl
  | f g => rfl
  | g g cs => rfl
theorem Qcv {t:List PV} {dst:Option Nat} {v:PV} {o:COper} (h:∀ d,dst = some d → d ∉ o.looks) {g:Nat} {want:Bool} (hg:o.guard = some (g,want)) :
  (put t dst v).getD g .top = t.getD g .top:=by
 cases dst with
 | none => rfl
 | some d =>
  have hne:d ≠ g:=fun e => h d rfl (by simp [COper.looks,hg,e])
  simp [put,List.getD,List.getElem?_set_ne hne]
theorem Zb {t:List PV} {a b:Option Nat} {v u:PV} (h:∀ d,a = some d → b ≠ some d):put (put t a v) b u = put (put t b u) a v:=by
 cases a with
 | none => rfl
 | some d =>
  cases b with
  | none => rfl
  | some e =>
   have:d ≠ e:=fun x => h d rfl (by rw [x])
   simp only [put]
   exact List.set_comm _ _ this
theorem QfY {C:CallR} {o:COper} {M M':List Blk} {t t':List PV} {dst:Option Nat} {v:PV} (h:∀ d,dst = some d → d ∉ o.looks) (hd:∀ d,dst = some d → o.dst ≠ some d)
  (k:QO C o (M) (put t dst v) M' t'):∃ t1,QO C o M t M' t1 ∧ t' = put t1 dst v:=by
 unfold QO at *
 split at k
 ·obtain ⟨u,h1,rfl⟩:=k
  exact ⟨_,⟨u,Ym _ (Jk h) h1,rfl⟩,Zb hd⟩
 ·rename_i g want hg
  obtain ⟨b,h0,k⟩:=k
  rw [Qcv h hg] at h0
  split at k
  ·rename_i hb
   obtain ⟨u,h1,rfl⟩:=k
   exact ⟨_,⟨b,h0,by rw [if_pos hb];exact ⟨u,Ym _ (Jk h) h1,rfl⟩⟩,Zb hd⟩
  ·rename_i hb
   obtain ⟨rfl,rfl⟩:=k
   exact ⟨_,⟨b,h0,by rw [if_neg hb];exact ⟨rfl,rfl⟩⟩,Zb hd⟩
theorem QeZ {C:CallR} {o:COper} {M M':List Blk} {t t1:List PV} {dst:Option Nat} {v:PV} (h:∀ d,dst = some d → d ∉ o.looks) (hd:∀ d,dst = some d → o.dst ≠ some d)
  (k:QO C o M t M' t1):QO C o M (put t dst v) M' (put t1 dst v):=by
 unfold QO at *
 split at k
 ·obtain ⟨u,h1,rfl⟩:=k
  exact ⟨u,Ym _ (fun x hx => (Jk h x hx).symm) h1,(Zb hd).symm⟩
 ·rename_i g want hg
  obtain ⟨b,h0,k⟩:=k
  refine ⟨b,by rw [Qcv h hg];exact h0,?_⟩
  split at k
  ·rename_i hb
   obtain ⟨u,h1,rfl⟩:=k
   rw [if_pos hb]
   exact ⟨u,Ym _ (fun x hx => (Jk h x hx).symm) h1,(Zb hd).symm⟩
  ·rename_i hb
   obtain ⟨rfl,rfl⟩:=k
   rw [if_neg hb]
   exact ⟨rfl,(Zb hd).symm⟩
theorem Qbq {C:CallR} {o:COper} {M M':List Blk} {t t':List PV} (k:QO C o M t M' t'):∃ v,t' = put t o.dst v:=by
 unfold QO at k
 split at k
 ·obtain ⟨u,_,rfl⟩:=k;exact ⟨_,rfl⟩
 ·obtain ⟨b,_,k⟩:=k
  split at k
  ·obtain ⟨u,_,rfl⟩:=k;exact ⟨_,rfl⟩
  ·exact ⟨_,k.2⟩
theorem Jc {C:CallR} {o:COper} {M M':List Blk} {t t':List PV} (hc:o.op.cls = 0) (k:QO C o M t M' t'):M' = M ∧ ∀ M2,QO C o M2 t M2 t':=by
 unfold QO at *
 split at k
 ·obtain ⟨u,h1,rfl⟩:=k
  obtain ⟨h2,h3⟩:=JH hc h1
  exact ⟨h2,fun M2 => ⟨u,h3 M2,rfl⟩⟩
 ·obtain ⟨b,h0,k⟩:=k
  split at k
  ·rename_i hb
   obtain ⟨u,h1,rfl⟩:=k
   obtain ⟨h2,h3⟩:=JH hc h1
   exact ⟨h2,fun M2 => ⟨b,h0,by rw [if_pos hb];exact ⟨u,h3 M2,rfl⟩⟩⟩
  ·rename_i hb
   exact ⟨k.1,fun M2 => ⟨b,h0,by rw [if_neg hb];exact ⟨rfl,k.2⟩⟩⟩
theorem QaU {C:CallR} {o:COper} {M M':List Blk} {t t':List PV} (hc:o.op.cls ≤ 1) (k:QO C o M t M' t'):M' = M:=by
 unfold QO at k
 split at k
 ·obtain ⟨u,h1,rfl⟩:=k;exact JD hc h1
 ·obtain ⟨b,h0,k⟩:=k
  split at k
  ·obtain ⟨u,h1,rfl⟩:=k;exact JD hc h1
  ·exact k.1
theorem swap {C:CallR} {a b:COper} (hi:indep a b = true) {M M1 M2:List Blk} {t t1 t2:List PV} (hb:QO C b M t M1 t1) (ha:QO C a M1 t1 M2 t2) :
  ∃ M3 t3,QO C a M t M3 t3 ∧ QO C b M3 t3 M2 t2:=by
 simp only [indep,Bool.and_eq_true,Bool.or_eq_true,decide_eq_true_eq,beq_iff_eq] at hi
 obtain ⟨⟨i1,i2⟩,i3⟩:=hi
 have n1:∀ d,a.dst = some d → d ∉ b.looks ∧ b.dst ≠ some d:=by
  intro d hd;rw [hd] at i1;simp at i1;exact i1
 have n2:∀ d,b.dst = some d → d ∉ a.looks:=by
  intro d hd;rw [hd] at i2;simp at i2;exact i2
 have n3:∀ d,b.dst = some d → a.dst ≠ some d:=fun d hd ha => (n1 d ha).2 hd
 obtain ⟨v,rfl⟩:=Qbq hb
 obtain ⟨t3,ha',rfl⟩:=QfY n2 n3 ha
 obtain ⟨u,rfl⟩:=Qbq ha'
 have hb':QO C b M (put t a.dst u) M1 (put (put t b.dst v) a.dst u):=QeZ (fun d hd => (n1 d hd).1) (fun d hd => (n1 d hd).2) hb
 rw [Zb n3] at hb'
 rcases i3 with (h0|h0)|⟨h1,h2⟩
 ·obtain ⟨rfl,hall⟩:=Jc h0 ha'
  exact ⟨M,_,hall M,hb'⟩
 ·obtain ⟨rfl,_⟩:=Jc h0 hb
  obtain ⟨_,hall⟩:=Jc h0 hb'
  exact ⟨M2,_,ha',hall M2⟩
 ·have e1:=QaU h2 hb
  have e2:=QaU h1 ha'
  subst e1;subst e2
  exact ⟨_,_,ha',hb'⟩
section
variable {σ:Type} {S:Nat → σ → σ → Prop} {I:Nat → Nat → Prop}
def runG (S:Nat → σ → σ → Prop):List Nat → σ → σ → Prop
 | [],s,s' => s' = s
 | i :: r,s,s' => ∃ s1,S i s s1 ∧ runG S r s1 s'
theorem pullG (hsw:∀ i j s s1 s2,I i j → S j s s1 → S i s1 s2 → ∃ s3,S i s s3 ∧ S j s3 s2) {i:Nat} (l2:List Nat):∀ (l1:List Nat) {s s':σ},runG S (l1 ++ i :: l2) s s' → (∀ j ∈ l1,I i j) → runG S (i :: (l1 ++ l2)) s s':=by
 intro l1
 induction l1 with
 | nil => exact fun h _ => h
 | cons j l1 ih =>
  intro s s' h hall
  obtain ⟨s1,h1,h2⟩:=h
  obtain ⟨s2,h3,h4⟩:=ih h2 fun k hk => hall k (by simp [hk])
  obtain ⟨s3,h5,h6⟩:=hsw i j _ _ _ (hall j (by simp)) h1 h3
  exact ⟨s3,h5,s2,h6,h4⟩
end
def QbZ (ms:List Nat) (o:Oper):Nat:=o.after.toList.foldl (fun m e => if Region.binds .any e then m ||| ((1 <<< e.on) ||| ms.getD e.on 0) else m) 0
def masks (ops:Array Oper):Nat → List Nat
 | 0 => []
 | k + 1 => let ms:=masks ops k;ms ++ [match ops[k]? with | some o => QbZ ms o | none => 0]
def Qbu (n:Nat) (ops:Array Oper) (ok:Nat → Nat → Bool):Bool :=
 let ms:=masks ops ops.size
 (List.range n).all fun i =>
  match ops[i]? with
  | some o => (o.after.all fun e => !Region.binds .any e || decide (e.on < i)) && (List.range i).all fun j => (ms.getD i 0).testBit j || ok i j
  | none => false
def Qaw (cs:List COper) (ops:Array Oper):Bool:=Qbu cs.length ops fun i j => match cs[i]?,cs[j]? with|some a,some b => indep a b|_,_ => false
theorem Qak (ops:Array Oper):∀ k,(masks ops k).length = k:=by
 intro k
 induction k with
 | zero => rfl
 | succ k ih => simp [masks,ih]
theorem J7 (ops:Array Oper):∀ (k i:Nat),i < k → (masks ops k).getD i 0 = match ops[i]? with|some o => QbZ (masks ops i) o|none => 0:=by
 intro k
 induction k with
 | zero => intro i h;omega
 | succ k ih =>
  intro i h
  by_cases e:i = k
  ·subst e
   simp [masks,List.getD,Qak]
  ·have hlt:i < k:=by omega
   rw [← ih i hlt]
   simp only [masks,List.getD]
   rw [List.getElem?_append_left (by rw [Qak];exact hlt)]
theorem QfA {ms:List Nat} {o:Oper} {j:Nat} (h:(QbZ ms o).testBit j = true):∃ e ∈ o.after,Region.binds .any e = true ∧ (e.on = j ∨ (ms.getD e.on 0).testBit j = true):=by
 unfold QbZ at h
 have key:∀ (l:List Edge) (m:Nat),(l.foldl (fun m e => if Region.binds .any e then m ||| ((1 <<< e.on) ||| ms.getD e.on 0) else m) m).testBit j = true →
   m.testBit j = true ∨ ∃ e ∈ l,Region.binds .any e = true ∧ (e.on = j ∨ (ms.getD e.on 0).testBit j = true):=by
  intro l
  induction l with
  | nil => exact fun m h => .inl h
  | cons e l ih =>
   intro m h
   rcases ih _ h with h|⟨e',h1,h2⟩
   ·simp only [] at h
    split at h
    ·rename_i hb
     rw [Nat.testBit_or,Nat.testBit_or,Bool.or_eq_true,Bool.or_eq_true] at h
     rcases h with h|h|h
     ·exact .inl h
     ·rw [Nat.one_shiftLeft,Nat.testBit_two_pow] at h
      exact .inr ⟨e,by simp,hb,.inl (by simpa using h)⟩
     ·exact .inr ⟨e,by simp,hb,.inr h⟩
    ·exact .inl h
   ·exact .inr ⟨e',by simp [h1],h2⟩
 rcases key _ 0 h with h|⟨e,h1,h2⟩
 ·simp at h
 ·exact ⟨e,by simpa using h1,h2⟩
theorem Qes {ops:Array Oper} {S:Nat → Prop} (hS:∀ x o,S x → ops[x]? = some o → ∀ e ∈ o.after,Region.binds .any e = true → S e.on) (hlt:∀ x o,ops[x]? = some o → ∀ e ∈ o.after,Region.binds .any e = true → e.on < x) :
  ∀ (i:Nat) (o:Oper),ops[i]? = some o → (∀ e ∈ o.after,Region.binds .any e = true → S e.on) → ∀ j,((masks ops ops.size).getD i 0).testBit j = true → S j:=by
 intro i
 induction i using Nat.strongRecOn with
 | _ i ih =>
  intro o ho he j hj
  rw [J7 ops _ i (Array.getElem?_eq_some_iff.1 ho).1,ho] at hj
  obtain ⟨e,h1,h2,h3⟩:=QfA hj
  have hSe:=he e h1 h2
  have hl:=hlt i o ho e h1 h2
  rcases h3 with rfl|h3
  ·exact hSe
  ·have hlt2:e.on < ops.size:=by have:=(Array.getElem?_eq_some_iff.1 ho).1;omega
   have ho2:ops[e.on]? = some ops[e.on]:=Array.getElem?_eq_getElem hlt2
   refine ih e.on hl _ ho2 (fun e' h4 h5 => hS e.on _ hSe ho2 e' h4 h5) j ?_
   rw [J7 ops _ e.on hlt2,ho2]
   rwa [J7 ops _ e.on hl,ho2] at h3
theorem Qk5 {σ:Type} {S:Nat → σ → σ → Prop} {ops:Array Oper} {ok:Nat → Nat → Bool} (hok:Qbu ops.size ops ok = true)
  (hsw:∀ i j s s1 s2,ok i j = true → S j s s1 → S i s1 s2 → ∃ s3,S i s s3 ∧ S j s3 s2):∀ (fuel tn:Nat) (listed:Array Bool) (rem:List Nat) {s s':σ},
  rem.length = fuel → rem.Pairwise (· < ·) → (∀ i,i ∈ rem ↔ i < ops.size ∧ listed.getD i true = false) → listed.size = ops.size →
  (∀ x o,listed.getD x false = true → ops[x]? = some o → ∀ e ∈ o.after,Region.binds .any e = true → listed.getD e.on false = true) →
  runG S rem s s' → runG S (Region.linearise.go .any ops fuel tn listed []) s s':=by
 intro fuel
 induction fuel with
 | zero =>
  intro tn listed rem s s' hl _ _ _ _ h
  rw [List.length_eq_zero_iff.1 hl] at h
  simpa [Region.linearise.go] using h
 | succ fuel ih =>
  intro tn listed rem s s' hl hp hm hs hcl h
  have facts:∀ i,i < ops.size → ∃ o,ops[i]? = some o ∧ (∀ e ∈ o.after,Region.binds .any e = true → e.on < i) ∧
    ∀ j,j < i → ((masks ops ops.size).getD i 0).testBit j = true ∨ ok i j = true:=by
   intro i hi
   have:=List.all_eq_true.1 hok i (by simpa using hi)
   cases ho:ops[i]? with
   | none => rw [ho] at this;cases this
   | some o =>
    rw [ho] at this
    simp only [Bool.and_eq_true,Array.all_eq_true',Bool.or_eq_true,Bool.not_eq_true',decide_eq_true_eq,List.all_eq_true,List.mem_range] at this
    refine ⟨o,rfl,fun e he hb => ?_,fun j hj => this.2 j hj⟩
    rcases this.1 e he with h|h
    ·rw [hb] at h;cases h
    ·exact h
  have ready:∀ i,i ∈ Region.ready .any ops listed ↔ i ∈ rem ∧ ∃ o,ops[i]? = some o ∧ ∀ e ∈ o.after,Region.binds .any e = true → listed.getD e.on false = true:=by
   intro i
   rw [hm]
   simp only [Region.ready,List.mem_filter,List.mem_range,Bool.and_eq_true,Bool.not_eq_true',and_assoc]
   refine and_congr_right fun hi => and_congr_right fun _ => ?_
   obtain ⟨o,ho,_⟩:=facts i hi
   rw [ho]
   simp only [Option.map_some,Option.getD_some,Array.all_eq_true',Bool.or_eq_true,Bool.not_eq_true',Option.some.injEq,exists_eq_left']
   refine forall_congr' fun e => forall_congr' fun he => ?_
   cases Region.binds .any e <;> simp
  simp only [Region.linearise.go]
  change runG S (match (Region.ready .any ops listed)[tn % (Region.ready .any ops listed).length]? with
   | some i => Region.linearise.go .any ops fuel (tn / (Region.ready .any ops listed).length) (listed.setIfInBounds i true) [i]
   | none => [].reverse) s s'
  cases hi:(Region.ready .any ops listed)[tn % (Region.ready .any ops listed).length]? with
  | none =>
   exfalso
   have hnil:Region.ready .any ops listed = []:=by
    cases hr:Region.ready .any ops listed with
    | nil => rfl
    | cons x xs =>
     rw [hr] at hi
     have hlt:tn % (x :: xs).length < (x :: xs).length:=Nat.mod_lt _ (by simp)
     simp at hi
     simp at hlt
     omega
   cases rem with
   | nil => simp at hl
   | cons i rem =>
    have hin:=(hm i).1 (by simp)
    obtain ⟨o,ho,h1,_⟩:=facts i hin.1
    have:i ∈ Region.ready .any ops listed:=by
     rw [ready]
     refine ⟨by simp,o,ho,fun e he hb => ?_⟩
     have hlt:=h1 e he hb
     have hnot:e.on ∉ i :: rem:=by
      intro hmem
      rcases List.mem_cons.1 hmem with e1|e1
      ·omega
      ·have:=(List.pairwise_cons.1 hp).1 _ e1;omega
     have h2:¬ (e.on < ops.size ∧ listed.getD e.on true = false):=fun hh => hnot ((hm e.on).2 hh)
     have h3:e.on < listed.size:=by omega
     have h4:listed.getD e.on true ≠ false:=fun hh => h2 ⟨by omega,hh⟩
     simp only [Array.getD,h3,dif_pos] at h4 ⊢
     simpa using h4
    rw [hnil] at this;cases this
  | some i =>
   simp only []
   rw [linearise_go_acc,List.reverse_singleton,List.singleton_append]
   obtain ⟨hrem,o,ho,hedge⟩:=(ready i).1 (List.mem_of_getElem? hi)
   have hin:=(hm i).1 hrem
   obtain ⟨o',ho',_,h2⟩:=facts i hin.1
   rw [ho] at ho';cases ho'
   obtain ⟨l1,l2,rfl⟩:=List.append_of_mem hrem
   have hp':=List.pairwise_append.1 hp
   have hp2:=List.pairwise_cons.1 hp'.2.1
   have key:=pullG (I:=fun i j => ok i j = true) hsw l2 l1 h (by
    intro j hj
    have hji:j < i:=hp'.2.2 j hj i (by simp)
    rcases h2 j hji with hbit|hind
    ·exfalso
     have h5:=Qes (S:=fun x => listed.getD x false = true) hcl (fun x o' hx => by
      obtain ⟨o2,ho2,h8,_⟩:=facts x (Array.getElem?_eq_some_iff.1 hx).1
      rw [hx] at ho2;cases ho2;exact h8) i o ho hedge j hbit
     have h6:=((hm j).1 (by simp [hj])).2
     have h7:j < listed.size:=by omega
     simp only [Array.getD,h7,dif_pos] at h5 h6
     rw [h5] at h6;cases h6
    ·exact hind)
   obtain ⟨s1,h3,h4⟩:=key
   refine ⟨s1,h3,ih _ _ (l1 ++ l2) (by simp at hl ⊢;omega) ?_ ?_ (by simpa using hs) ?_ h4⟩
   ·exact List.pairwise_append.2 ⟨hp'.1,hp2.2,fun x hx y hy => hp'.2.2 x hx y (by simp [hy])⟩
   ·intro k
    have hk:=hm k
    by_cases e:k = i
    ·subst e
     have n1:k ∉ l1:=fun hh => by have:=hp'.2.2 k hh k (by simp);omega
     have n2:k ∉ l2:=fun hh => by have:=hp2.1 k hh;omega
     have h7:k < listed.size:=by omega
     simp [n1,n2,Array.getD,h7]
    ·simp only [List.mem_append,List.mem_cons,e,false_or] at hk ⊢
     rw [hk]
     have:(listed.setIfInBounds i true).getD k true = listed.getD k true:=by
      simp [Array.getD_eq_getD_getElem?,Array.getElem?_setIfInBounds_ne (Ne.symm e)]
     rw [this]
   ·have up:∀ x,listed.getD x false = true → (listed.setIfInBounds i true).getD x false = true:=by
     intro x hx
     by_cases e:i = x
     ·subst e
      have h7:i < listed.size:=by omega
      simp [Array.getD,h7]
     ·simpa [Array.getD_eq_getD_getElem?,Array.getElem?_setIfInBounds_ne e] using hx
    intro x o' hx hox e he hb
    by_cases e1:i = x
    ·subst e1
     rw [ho] at hox;cases hox
     exact up _ (hedge e he hb)
    ·refine up _ (hcl x o' ?_ hox e he hb)
     simpa [Array.getD_eq_getD_getElem?,Array.getElem?_setIfInBounds_ne e1] using hx
theorem Js {σ:Type} {S:Nat → σ → σ → Prop} {ops:Array Oper} {ok:Nat → Nat → Bool} (hok:Qbu ops.size ops ok = true)
  (hsw:∀ i j s s1 s2,ok i j = true → S j s s1 → S i s1 s2 → ∃ s3,S i s s3 ∧ S j s3 s2) (tn:Nat) {s s':σ} (h:runG S (List.range ops.size) s s'):runG S (Region.linearise .any ops tn) s s':=by
 refine Qk5 hok hsw ops.size tn _ (List.range ops.size) (by simp) List.pairwise_lt_range ?_ (by simp) (fun x o hx => by exfalso;revert hx;simp [Array.getD];try split <;> simp) h
 intro i
 simp only [List.mem_range]
 constructor
 ·intro hi;exact ⟨hi,by simp [Array.getD,hi]⟩
 ·exact fun h => h.1
def stepS (C:CallR) (cs:List COper) (i:Nat) (s s':List Blk × List PV):Prop:=∃ o,cs[i]? = some o ∧ QO C o s.1 s.2 s'.1 s'.2
theorem Qnf {C:CallR} {cs:List COper}:∀ (l:List Nat) {M M':List Blk} {t t':List PV},runL C cs l M t M' t' ↔ runG (stepS C cs) l (M,t) (M',t'):=by
 intro l
 induction l with
 | nil => intro M M' t t';simp [runL,runG]
 | cons i l ih =>
  intro M M' t t'
  constructor
  ·rintro ⟨o,M1,t1,h1,h2,h3⟩
   exact ⟨(M1,t1),⟨o,h1,h2⟩,ih.1 h3⟩
  ·rintro ⟨⟨M1,t1⟩,⟨o,h1,h2⟩,h3⟩
   exact ⟨o,M1,t1,h1,h2,ih.2 h3⟩
theorem QcW {C:CallR} {cs:List COper} {ops:Array Oper} (hn:cs.length = ops.size) (hok:Qaw cs ops = true) (tn:Nat) {M M':List Blk} {t t':List PV}
  (h:runL C cs (List.range cs.length) M t M' t'):runL C cs (Region.linearise .any ops tn) M t M' t':=by
 rw [Qnf] at h ⊢
 rw [hn] at h
 unfold Qaw at hok
 rw [hn] at hok
 refine Js hok (fun i j s s1 s2 hij hj hi => ?_) tn h
 obtain ⟨b,hb,h1⟩:=hj
 obtain ⟨a,ha,h2⟩:=hi
 simp only [ha,hb] at hij
 obtain ⟨M3,t3,h3,h4⟩:=swap hij h1 h2
 exact ⟨(M3,t3),⟨a,ha,h3⟩,b,hb,h4⟩
end Go.Nac
