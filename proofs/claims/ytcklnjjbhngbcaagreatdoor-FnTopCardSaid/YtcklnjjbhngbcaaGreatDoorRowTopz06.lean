/- Lemmas and contracts of functions that the theorem of this claim leans on (texts L12). -/
import Derived.Test.YtcklnjjbhngbcaaGreatDoorRowTopz00
import Derived.Test.YtcklnjjbhngbcaaGreatDoorRowTopz02
import Derived.Test.YtcklnjjbhngbcaaGreatDoorRowUnz02
namespace Go.Proofs.YtcklnjjbhngbcaaGreatDoor
open Go.RowKit Go.Proofs.Lens
theorem sm_sound {t:PTr} (h:Sound t):smTr t:=by
 have h1:=h.sizes
 simp only [sizesOk,Bool.and_eq_true,decide_eq_true_eq,fnsOk,List.all_eq_true] at h1
 refine ⟨⟨by omega,fun i hi=>?_⟩,by omega,fun i hi=>?_⟩
 ·rw [elt_eq hi]
  have:=h1.2 _ (List.getElem_mem hi)
  omega
 ·have h2:=h.moms i hi
  simp only [momOk,momHd,Bool.and_eq_true,decide_eq_true_eq,varsOk,List.all_eq_true] at h2
  refine ⟨by omega,by omega,fun j hj=>?_⟩
  rw [elt_eq hj]
  have h3:=h2.2 _ (List.getElem_mem hj)
  simp only [varOk,Bool.and_eq_true,decide_eq_true_eq,inB_true] at h3
  exact ⟨by omega,by omega⟩
end Go.Proofs.YtcklnjjbhngbcaaGreatDoor
